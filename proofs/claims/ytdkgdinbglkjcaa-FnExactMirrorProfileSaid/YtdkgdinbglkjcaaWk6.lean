/- The laws on sums of numbers. -/
import Derived.Test.YtdkgdinbglkjcaaWk5
import Derived.Test.YtdkgdinbglkjcaaWk4
namespace Go.Proofs.Ytdkgdinbglkjcaa
open Fl Go.RowKit

theorem impl_sum (w : World) (v : Value) (zs : List Nat) (h : FS w v zs) : Calls Try.prog 60 #[v] w (RetC .f32 (sumC zs zs.length) w) := by
  obtain ⟨a, len, cap, rfl⟩ := h.shape
  obtain ⟨rfl, hm, HC⟩ := h.at
  unfold maxLen at hm
  clear h
  go_enter Try.func60, Try.ntmps60
  go_wp2_with fail
  go_loopw [3, 8] (fun s i wr => ∃ k n r : Nat, k ≤ zs.length ∧ i = .int .i64 k ∧ s = .float .f32 r ∧ r < 2 ^ FloatKind.f32.format.width ∧ cls .f32 r = sumC zs k ∧ wr = w.drewN n) (fun _ i _ => zs.length - (intOf i).toNat)
  case atStart => exact ⟨0, 0, 0, Nat.zero_le _, rfl, rfl, zero_lt _, cls_zero _, rfl⟩
  case round =>
    obtain ⟨k, n, r, hk, rfl, rfl, hr, hcr, rfl⟩ := hrel
    have HR := Lib.hid hr; clear hr
    have HCR := Lib.hid hcr; clear hcr
    by_cases hlt : k < zs.length
    · obtain ⟨b, off, rfl, hb, hc0⟩ := HC.out k hlt
      have HS := Lib.hid (show sumC zs (k + 1) = cop .add .f32 (sumC zs k) (cls .f32 (zs.getD k 0)) from rfl)
      generalize zs.getD k 0 = z at *
      go_wp2
      go_roundw
      case rel => exact ⟨k + 1, _, _, by omega, by go_num, rfl, fa_lt _ _ _ _ _, by rw [cls_fa, HS.out, HCR.out], rfl⟩
      case measure => simp [intOf]; omega
    · have : k = zs.length := by omega
      subst this
      go_wp2
      go_ret
      exact .mk' HR.out HCR.out rfl

theorem spec_l01Few (w : World) (a : Option Addr) (len cap : Nat) (b : Bool) (hb : decide (len ≤ 256) = b) : Calls Try.prog 57 #[.slice a len cap] w (Ret (.bool b) w) := by
  cases b
  · have h := of_decide_eq_false hb
    clear hb
    have h' : decide ((len : Int) ≤ 256) = false := decide_eq_false (by omega)
    go_enter Try.func57, Try.ntmps57
    go_wp2
    go_ret
    exact .mk' 0 rfl rfl
  · have h := of_decide_eq_true hb
    clear hb
    have h' : decide ((len : Int) ≤ 256) = true := decide_eq_true (by omega)
    go_enter Try.func57, Try.ntmps57
    go_wp2
    go_ret
    exact .mk' 0 rfl rfl

theorem spec_SumNumbers_yes (w : World) (v : Value) (zs : List Nat) (h : FS w v zs) (hl : zs.length ≤ 256) : Calls Try.prog 22 #[v] w (RetC2 .f32 (sumC zs zs.length) w) := by
  have H := Lib.hid h
  obtain ⟨a, len, cap, rfl⟩ := h.shape
  obtain ⟨rfl, hm, _⟩ := h.at
  clear h
  go_enter Try.func22, Try.ntmps22
  go_wp2_with (go_at_call 57; refine (spec_l01Few _ _ _ _ true (decide_eq_true hl)).mono ?_; rintro e w' ⟨rfl, n, rfl⟩)
  refine (spec_l01Sum _ _ _ (H.out.drewN _)).mono ?_
  rintro e w' ⟨r, n', rfl, hr, hc, rfl⟩
  have HR := Lib.hid hr; clear hr
  have HC := Lib.hid hc; clear hc
  go_wp2
  go_ret2
  exact .mk' HR.out HC.out rfl
theorem spec_SumNumbers_no (w : World) (v : Value) (zs : List Nat) (h : FS w v zs) (hl : ¬ zs.length ≤ 256) : Calls Try.prog 22 #[v] w (Ret (.tuple #[.float .f32 0, .bool false]) w) := by
  obtain ⟨a, len, cap, rfl⟩ := h.shape
  obtain ⟨rfl, hm, _⟩ := h.at
  clear h
  go_enter Try.func22, Try.ntmps22
  go_wp2_with (go_at_call 57; refine (spec_l01Few _ _ _ _ false (decide_eq_false hl)).mono ?_; rintro e w' ⟨rfl, n, rfl⟩)
  go_ret2
  exact .mk' _ rfl rfl

theorem impl_SumNumbers_yes (w : World) (v : Value) (zs : List Nat) (h : FS w v zs) (hl : zs.length ≤ 256) : Calls Try.prog 23 #[v] w (RetC2 .f32 (sumC zs zs.length) w) := by
  have H := Lib.hid h
  obtain ⟨a, len, cap, rfl⟩ := h.shape
  obtain ⟨rfl, hm, _⟩ := h.at
  clear h
  go_enter Try.func23, Try.ntmps23
  go_wp2_with fail
  refine (impl_sum _ _ _ H.out).mono ?_
  rintro e w' ⟨r, n', rfl, hr, hc, rfl⟩
  have HR := Lib.hid hr; clear hr
  have HC := Lib.hid hc; clear hc
  go_wp2
  go_ret2
  exact .mk' HR.out HC.out rfl
theorem impl_SumNumbers_no (w : World) (v : Value) (zs : List Nat) (h : FS w v zs) (hl : ¬ zs.length ≤ 256) : Calls Try.prog 23 #[v] w (Ret (.tuple #[.float .f32 0, .bool false]) w) := by
  obtain ⟨a, len, cap, rfl⟩ := h.shape
  obtain ⟨rfl, hm, _⟩ := h.at
  clear h
  go_enter Try.func23, Try.ntmps23
  go_wp2
  go_ret2
  exact .mk' 0 rfl rfl

theorem law_SumNumbers (w : World) (v : Value) (zs : List Nat) (h : FS w v zs) : Calls Try.prog 4 #[v] w (RetB (.bool true) w) := by
  by_cases hl : zs.length ≤ 1048576
  · have HL := Lib.hid (Live.start.add h)
    obtain ⟨a, len, cap, rfl⟩ := h.shape
    obtain ⟨rfl, hm, _⟩ := h.at
    clear h
    by_cases hs : zs.length ≤ 256
    · go_enter Try.func4, Try.ntmps4
      go_wp2_with fail
      refine (toFloat32S_any _ _ _ (HL.out.2 _ _ (.head _)) hl).mono ?_
      rintro e w1 ⟨v1, rfl, ho, hb⟩
      have HL1 := Lib.hid ((HL.out.step hb).add ho.FS); clear ho hb HL
      go_wp2_with fail
      refine (spec_SumNumbers_yes _ _ _ (HL1.out.2 _ _ (.head _)) hs).mono ?_
      rintro e w2 ⟨r1, n1, rfl, hr, hc, hw⟩
      have HR1 := Lib.hid hc; clear hc hr
      have HL2 := Lib.hid (HL1.out.drawn hw); clear hw HL1
      go_wp2_with fail
      refine (toFloat32S_any _ _ _ (HL2.out.2 _ _ (.tail _ (.head _))) hl).mono ?_
      rintro e w3 ⟨v3, rfl, ho, hb⟩
      have HL3 := Lib.hid ((HL2.out.step hb).add ho.FS); clear ho hb HL2
      go_wp2_with fail
      refine (impl_SumNumbers_yes _ _ _ (HL3.out.2 _ _ (.head _)) hs).mono ?_
      rintro e w4 ⟨r2, n2, rfl, hr, hc, hw⟩
      have HR2 := Lib.hid hc; clear hc hr
      have HL4 := Lib.hid (HL3.out.drawn hw); clear hw HL3
      go_wp2_with fail
      refine (sameFloat_w _ _ (HR2.out.trans HR1.out.symm) _ _ _).mono ?_
      rintro e w5 ⟨rfl, n3, hw⟩
      rw [World.drewN_drewN] at hw
      have HL5 := Lib.hid (HL4.out.drawn hw); clear hw HL4
      go_wp2_with fail
      refine (toFloat32S_any _ _ _ (HL5.out.2 _ _ (.tail _ (.tail _ (.head _)))) hl).mono ?_
      rintro e w6 ⟨v6, rfl, ho, hb⟩
      have HL6 := Lib.hid ((HL5.out.step hb).add ho.FS); clear ho hb HL5
      go_wp2_with fail
      refine (eqFloat32S_true _ _ _ _ _ (HL6.out.2 _ _ (.tail _ (.head _))) (HL6.out.2 _ _ (.head _)) rfl (fun _ _ => rfl)).mono ?_
      rintro e w7 ⟨rfl, n4, hw⟩
      have HL7 := Lib.hid (HL6.out.drawn hw); clear hw HL6
      go_wp2
      go_ret
      exact .mk' rfl HL7.out.1
    · go_enter Try.func4, Try.ntmps4
      go_wp2_with fail
      refine (toFloat32S_any _ _ _ (HL.out.2 _ _ (.head _)) hl).mono ?_
      rintro e w1 ⟨v1, rfl, ho, hb⟩
      have HL1 := Lib.hid ((HL.out.step hb).add ho.FS); clear ho hb HL
      go_wp2_with fail
      refine (spec_SumNumbers_no _ _ _ (HL1.out.2 _ _ (.head _)) hs).mono ?_
      rintro e w2 ⟨rfl, n1, hw⟩
      have HL2 := Lib.hid (HL1.out.drawn hw); clear hw HL1
      go_wp2_with fail
      refine (toFloat32S_any _ _ _ (HL2.out.2 _ _ (.tail _ (.head _))) hl).mono ?_
      rintro e w3 ⟨v3, rfl, ho, hb⟩
      have HL3 := Lib.hid ((HL2.out.step hb).add ho.FS); clear ho hb HL2
      go_wp2_with fail
      refine (impl_SumNumbers_no _ _ _ (HL3.out.2 _ _ (.head _)) hs).mono ?_
      rintro e w4 ⟨rfl, n2, hw⟩
      have HL4 := Lib.hid (HL3.out.drawn hw); clear hw HL3
      go_wp2_with fail
      refine (sameFloat_w _ _ rfl _ _ _).mono ?_
      rintro e w5 ⟨rfl, n3, hw⟩
      rw [World.drewN_drewN] at hw
      have HL5 := Lib.hid (HL4.out.drawn hw); clear hw HL4
      go_wp2_with fail
      refine (toFloat32S_any _ _ _ (HL5.out.2 _ _ (.tail _ (.tail _ (.head _)))) hl).mono ?_
      rintro e w6 ⟨v6, rfl, ho, hb⟩
      have HL6 := Lib.hid ((HL5.out.step hb).add ho.FS); clear ho hb HL5
      go_wp2_with fail
      refine (eqFloat32S_true _ _ _ _ _ (HL6.out.2 _ _ (.tail _ (.head _))) (HL6.out.2 _ _ (.head _)) rfl (fun _ _ => rfl)).mono ?_
      rintro e w7 ⟨rfl, n4, hw⟩
      have HL7 := Lib.hid (HL6.out.drawn hw); clear hw HL6
      go_wp2
      go_ret
      exact .mk' rfl HL7.out.1
  · obtain ⟨a, len, cap, rfl⟩ := h.shape
    obtain ⟨rfl, hm, _⟩ := h.at
    unfold maxLen at hm
    clear h
    go_enter Try.func4, Try.ntmps4
    go_wp2
    go_ret
    exact .mk' rfl (Below.refl _ _)

end Go.Proofs.Ytdkgdinbglkjcaa
