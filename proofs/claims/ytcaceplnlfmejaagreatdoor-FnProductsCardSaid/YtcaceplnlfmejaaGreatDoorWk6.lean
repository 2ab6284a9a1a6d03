/- The laws on sums of numbers. -/
import Derived.Test.YtcaceplnlfmejaaGreatDoorWk5
import Derived.Test.YtcaceplnlfmejaaGreatDoorWk4
namespace Go.Proofs.YtcaceplnlfmejaaGreatDoor
open Fl Go.RowKit

theorem impl_sum (w : World) (v : Value) (zs : List Nat) (h : FS w v zs) : Calls Tryz.prog 64 #[v] w (RetC .f32 (sumC zs zs.length) w) := by
  obtain ⟨a, len, cap, rfl⟩ := h.shape
  obtain ⟨rfl, hm, HC⟩ := h.at
  unfold maxLen at hm
  clear h
  go_enter Tryz.func64, Tryz.ntmps64
  go_wp2_with fail
  go_loopw [3, 8] (fun s i wr => ∃ k n r : Nat, k ≤ zs.length ∧ i = .int .i64 k ∧ s = .float .f32 r ∧ r < 2 ^ FloatKind.f32.format.width ∧ cls .f32 r = sumC zs k ∧ wr = w.drewN n) (fun _ i _ => zs.length - (intOf i).toNat)
  case atStart => exact ⟨0, 0, 0, Nat.zero_le _, rfl, rfl, zero_lt _, cls_zero _, rfl⟩
  case round =>
    obtain ⟨k, n, r, hk, rfl, rfl, hr, hcr, rfl⟩ := hrel
    have HR := Lib.hid hr; clear hr
    have HCR := Lib.hid hcr; clear hcr
    by_cases hlt : k < zs.length
    · obtain ⟨b, off, rfl, hb, hc0⟩ := HC.out k hlt
      have HS := Lib.hid (show sumC zs (k + 1) = cop .add .f32 (sumC zs k) (cls .f32 (zs.getD k 0)) from rfl)
      generalize zs.getD k 0 = z at *
      go_wp2
      go_roundw
      case rel => exact ⟨k + 1, _, _, by omega, by go_num, rfl, fa_lt _ _ _ _ _, by rw [cls_fa, HS.out, HCR.out], rfl⟩
      case measure => simp [intOf]; omega
    · have : k = zs.length := by omega
      subst this
      go_wp2
      go_ret
      exact .mk' HR.out HCR.out rfl



theorem impl_SumNumbers_yes (w : World) (v : Value) (zs : List Nat) (h : FS w v zs) (hl : zs.length ≤ 256) : Calls Tryz.prog 30 #[v] w (RetC2 .f32 (sumC zs zs.length) w) := by
  have H := Lib.hid h
  obtain ⟨a, len, cap, rfl⟩ := h.shape
  obtain ⟨rfl, hm, _⟩ := h.at
  clear h
  go_enter Tryz.func30, Tryz.ntmps30
  go_wp2_with fail
  refine (impl_sum _ _ _ H.out).mono ?_
  rintro e w' ⟨r, n', rfl, hr, hc, rfl⟩
  have HR := Lib.hid hr; clear hr
  have HC := Lib.hid hc; clear hc
  go_wp2
  go_ret2
  exact .mk' HR.out HC.out rfl
theorem impl_SumNumbers_no (w : World) (v : Value) (zs : List Nat) (h : FS w v zs) (hl : ¬ zs.length ≤ 256) : Calls Tryz.prog 30 #[v] w (Ret (.tuple #[.float .f32 0, .bool false]) w) := by
  obtain ⟨a, len, cap, rfl⟩ := h.shape
  obtain ⟨rfl, hm, _⟩ := h.at
  clear h
  go_enter Tryz.func30, Tryz.ntmps30
  go_wp2
  go_ret2
  exact .mk' 0 rfl rfl


end Go.Proofs.YtcaceplnlfmejaaGreatDoor
