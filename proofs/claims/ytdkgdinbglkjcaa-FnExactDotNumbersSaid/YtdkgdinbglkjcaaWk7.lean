/- The law on products of numbers. -/
import Derived.Test.YtdkgdinbglkjcaaWk6
import Derived.Test.YtdkgdinbglkjcaaSft
namespace Go.Proofs.Ytdkgdinbglkjcaa
open Fl Go.RowKit

theorem dotC_succ (zs ys : List Nat) (k : Nat) : dotC zs ys (k + 1) = cop .add .f32 (dotC zs ys k) (cop .mul .f32 (cls .f32 (zs.getD k 0)) (cls .f32 (ys.getD k 0))) := rfl

theorem spec_l01Dot (w : World) (v v' : Value) (zs ys : List Nat) (h : FS w v zs) (h' : FS w v' ys) (hl : zs.length = ys.length) : Calls Try.prog 58 #[v, v'] w (RetC .f32 (dotC zs ys zs.length) w) := by
  obtain ⟨a, len, cap, rfl⟩ := h.shape
  obtain ⟨rfl, hm, HC⟩ := h.at
  obtain ⟨a', len', cap', rfl⟩ := h'.shape
  obtain ⟨rfl, _, HC'⟩ := h'.at
  unfold maxLen at hm
  rw [← hl] at HC' ⊢
  clear h h' hl
  go_enter Try.func58, Try.ntmps58
  go_wp2_with fail
  go_loopw [5, 6] (fun s i wr => ∃ k n r : Nat, k ≤ zs.length ∧ i = .int .i64 k ∧ s = .float .f32 r ∧ r < 2 ^ FloatKind.f32.format.width ∧ cls .f32 r = dotC zs ys k ∧ wr = w.drewN n) (fun _ i _ => zs.length - (intOf i).toNat)
  case atStart => exact ⟨0, 0, 0, Nat.zero_le _, rfl, rfl, zero_lt _, cls_zero _, rfl⟩
  case round =>
    obtain ⟨k, n, r, hk, rfl, rfl, hr, hcr, hw⟩ := hrel
    have HR := Lib.hid hr; clear hr
    have HCR := Lib.hid hcr; clear hcr
    have HW := Lib.hid hw; clear hw
    by_cases hlt : k < zs.length
    · obtain ⟨b, off, rfl, hb, hc0⟩ := HC.out k hlt
      obtain ⟨b', off', rfl, hb', hc0'⟩ := HC'.out k hlt
      have HS := Lib.hid (dotC_succ zs ys k)
      generalize zs.getD k 0 = z at *
      generalize ys.getD k 0 = y at *
      have hc1 : wr.cell? ⟨b, off + k, none⟩ = some (.float .f32 z) := by rw [HW.out]; exact hc0
      have hc1' : wr.cell? ⟨b', off' + k, none⟩ = some (.float .f32 y) := by rw [HW.out]; exact hc0'
      clear hc0 hc0'
      go_wp2_with fail
      refine Soft.region (fun _ _ _ => False) (by kernel_rfl) (by kernel_rfl) ?_
      repeat (refine Soft.step_k (fun K hK => ?_); go_simp; (try intro nn); refine hK _ ?_; clear hK K)
      refine Soft.wpSoft_nil ?_
      intro n2
      go_wp2
      go_roundw
      case rel => exact ⟨k + 1, _, _, by omega, by go_num, rfl, fa_lt _ _ _ _ _, by rw [cls_fa, cls_fa, HS.out, HCR.out], by rw [HW.out, World.drewN_drewN]⟩
      case measure => simp [intOf]; omega
    · have : k = zs.length := by omega
      subst this
      go_wp2
      go_ret
      exact .mk' HR.out HCR.out HW.out

theorem spec_DotNumbers_yes (w : World) (v v' : Value) (zs ys : List Nat) (h : FS w v zs) (h' : FS w v' ys) (hl : zs.length = ys.length) (hs : zs.length ≤ 256) : Calls Try.prog 17 #[v, v'] w (RetC2 .f32 (dotC zs ys zs.length) w) := by
  have H := Lib.hid h
  have H' := Lib.hid h'
  obtain ⟨a, len, cap, rfl⟩ := h.shape
  obtain ⟨rfl, hm, _⟩ := h.at
  obtain ⟨a', len', cap', rfl⟩ := h'.shape
  obtain ⟨rfl, _, _⟩ := h'.at
  have HL := Lib.hid hl
  have hl2 : ((zs.length : Int) != (ys.length : Int)) = false := by rw [hl]; simp
  clear h h' hl
  go_enter Try.func17, Try.ntmps17
  go_wp2_with (go_at_call 57; refine (spec_l01Few _ _ _ _ true (decide_eq_true hs)).mono ?_; rintro e w' ⟨rfl, n, rfl⟩)
  refine (spec_l01Dot _ _ _ _ _ (H.out.drewN _) (H'.out.drewN _) HL.out).mono ?_
  rintro e w' ⟨r, n', rfl, hr, hc, rfl⟩
  have HR := Lib.hid hr; clear hr
  have HC := Lib.hid hc; clear hc
  go_wp2
  go_ret2
  exact .mk' HR.out HC.out rfl
theorem spec_DotNumbers_no (w : World) (v v' : Value) (zs ys : List Nat) (h : FS w v zs) (h' : FS w v' ys) (hl : ¬ (zs.length ≤ 256 ∧ zs.length = ys.length)) : Calls Try.prog 17 #[v, v'] w (Ret (.tuple #[.float .f32 0, .bool false]) w) := by
  obtain ⟨a, len, cap, rfl⟩ := h.shape
  obtain ⟨rfl, hm, _⟩ := h.at
  obtain ⟨a', len', cap', rfl⟩ := h'.shape
  obtain ⟨rfl, _, _⟩ := h'.at
  clear h h'
  by_cases hs : zs.length ≤ 256
  · have hl2 : ((zs.length : Int) != (ys.length : Int)) = true := by simp; omega
    clear hl
    go_enter Try.func17, Try.ntmps17
    go_wp2_with (go_at_call 57; refine (spec_l01Few _ _ _ _ true (decide_eq_true hs)).mono ?_; rintro e w' ⟨rfl, n, rfl⟩)
    go_ret2
    exact .mk' _ rfl rfl
  · clear hl
    go_enter Try.func17, Try.ntmps17
    go_wp2_with (go_at_call 57; refine (spec_l01Few _ _ _ _ false (decide_eq_false hs)).mono ?_; rintro e w' ⟨rfl, n, rfl⟩)
    go_ret2
    exact .mk' _ rfl rfl

theorem impl_DotNumbers_yes (w : World) (v v' : Value) (zs ys : List Nat) (h : FS w v zs) (h' : FS w v' ys) (hl : zs.length = ys.length) (hs : zs.length ≤ 256) : Calls Try.prog 19 #[v, v'] w (RetC2 .f32 (dotC zs ys zs.length) w) := by
  obtain ⟨a, len, cap, rfl⟩ := h.shape
  obtain ⟨rfl, hm, HC⟩ := h.at
  obtain ⟨a', len', cap', rfl⟩ := h'.shape
  obtain ⟨rfl, _, HC'⟩ := h'.at
  unfold maxLen at hm
  rw [← hl] at HC' ⊢
  clear h h' hl
  have hl2 : ((zs.length : Int) != (zs.length : Int)) = false := by simp
  have hs2 : decide (256 < (zs.length : Int)) = false := decide_eq_false (by omega)
  go_enter Try.func19, Try.ntmps19
  go_wp2_with fail
  go_loopw [6, 21] (fun s i wr => ∃ k n r : Nat, k ≤ zs.length ∧ i = .int .i64 k ∧ s = .float .f32 r ∧ r < 2 ^ FloatKind.f32.format.width ∧ cls .f32 r = dotC zs ys k ∧ wr = w.drewN n) (fun _ i _ => zs.length - (intOf i).toNat)
  case atStart => exact ⟨0, 0, 0, Nat.zero_le _, rfl, rfl, zero_lt _, cls_zero _, rfl⟩
  case round =>
    obtain ⟨k, n, r, hk, rfl, rfl, hr, hcr, rfl⟩ := hrel
    have HR := Lib.hid hr; clear hr
    have HCR := Lib.hid hcr; clear hcr
    by_cases hlt : k < zs.length
    · obtain ⟨b, off, rfl, hb, hc0⟩ := HC.out k hlt
      obtain ⟨b', off', rfl, hb', hc0'⟩ := HC'.out k hlt
      have HS := Lib.hid (dotC_succ zs ys k)
      generalize zs.getD k 0 = z at *
      generalize ys.getD k 0 = y at *
      go_wp2
      go_roundw
      case rel => exact ⟨k + 1, _, _, by omega, by go_num, rfl, fa_lt _ _ _ _ _, by rw [cls_fa, cls_fa, HS.out, HCR.out], rfl⟩
      case measure => simp [intOf]; omega
    · have : k = zs.length := by omega
      subst this
      go_wp2
      go_ret2
      exact .mk' HR.out HCR.out rfl
theorem impl_DotNumbers_no (w : World) (v v' : Value) (zs ys : List Nat) (h : FS w v zs) (h' : FS w v' ys) (hl : ¬ (zs.length ≤ 256 ∧ zs.length = ys.length)) : Calls Try.prog 19 #[v, v'] w (Ret (.tuple #[.float .f32 0, .bool false]) w) := by
  obtain ⟨a, len, cap, rfl⟩ := h.shape
  obtain ⟨rfl, hm, _⟩ := h.at
  obtain ⟨a', len', cap', rfl⟩ := h'.shape
  obtain ⟨rfl, _, _⟩ := h'.at
  clear h h'
  by_cases hs : zs.length ≤ 256
  · have hl2 : ((zs.length : Int) != (ys.length : Int)) = true := by simp; omega
    clear hl
    go_enter Try.func19, Try.ntmps19
    go_wp2
    go_ret2
    exact .mk' 0 rfl rfl
  · clear hl
    go_enter Try.func19, Try.ntmps19
    go_wp2
    go_ret2
    exact .mk' 0 rfl rfl

theorem law_DotNumbers (w : World) (v v' : Value) (zs ys : List Nat) (h : FS w v zs) (h' : FS w v' ys) : Calls Try.prog 3 #[v, v'] w (RetB (.bool true) w) := by
  by_cases hl : zs.length ≤ 1048576
  · by_cases hl' : ys.length ≤ 1048576
    · have HL := Lib.hid ((Live.start.add h).add h')
      obtain ⟨a, len, cap, rfl⟩ := h.shape
      obtain ⟨rfl, hm, _⟩ := h.at
      obtain ⟨a', len', cap', rfl⟩ := h'.shape
      obtain ⟨rfl, hm', _⟩ := h'.at
      clear h h'
      by_cases hs : zs.length ≤ 256 ∧ zs.length = ys.length
      · have HH := Lib.hid hs; clear hs
        go_enter Try.func3, Try.ntmps3
        go_wp2_with fail
        refine (toFloat32S_any _ _ zs (HL.out.2 _ _ (.tail _ (.head _))) hl).mono ?_
        rintro e w1 ⟨v1, rfl, ho, hb⟩
        have HL1 := Lib.hid ((HL.out.step hb).add ho.FS); clear ho hb HL
        go_wp2_with fail
        refine (toFloat32S_any _ _ ys (HL1.out.2 _ _ (.tail _ (.head _))) hl').mono ?_
        rintro e w2 ⟨v2, rfl, ho, hb⟩
        have HL2 := Lib.hid ((HL1.out.step hb).add ho.FS); clear ho hb HL1
        go_wp2_with fail
        refine (spec_DotNumbers_yes _ _ _ zs ys (HL2.out.2 _ _ (.tail _ (.head _))) (HL2.out.2 _ _ (.head _)) HH.out.2 HH.out.1).mono ?_
        rintro e w3 ⟨r1, n1, rfl, hr, hc, hw⟩
        have HR1 := Lib.hid hc; clear hc hr
        have HL3 := Lib.hid (HL2.out.drawn hw); clear hw HL2
        go_wp2_with fail
        refine (toFloat32S_any _ _ zs (HL3.out.2 _ _ (.tail _ (.tail _ (.tail _ (.head _))))) hl).mono ?_
        rintro e w4 ⟨v4, rfl, ho, hb⟩
        have HL4 := Lib.hid ((HL3.out.step hb).add ho.FS); clear ho hb HL3
        go_wp2_with fail
        refine (toFloat32S_any _ _ ys (HL4.out.2 _ _ (.tail _ (.tail _ (.tail _ (.head _))))) hl').mono ?_
        rintro e w5 ⟨v5, rfl, ho, hb⟩
        have HL5 := Lib.hid ((HL4.out.step hb).add ho.FS); clear ho hb HL4
        go_wp2_with fail
        refine (impl_DotNumbers_yes _ _ _ zs ys (HL5.out.2 _ _ (.tail _ (.head _))) (HL5.out.2 _ _ (.head _)) HH.out.2 HH.out.1).mono ?_
        rintro e w6 ⟨r2, n2, rfl, hr, hc, hw⟩
        have HR2 := Lib.hid hc; clear hc hr
        have HL6 := Lib.hid (HL5.out.drawn hw); clear hw HL5
        go_wp2_with fail
        refine (sameFloat_w _ _ (HR2.out.trans HR1.out.symm) _ _ _).mono ?_
        rintro e w7 ⟨rfl, n3, hw⟩
        rw [World.drewN_drewN] at hw
        have HL7 := Lib.hid (HL6.out.drawn hw); clear hw HL6
        go_wp2_with fail
        refine (toFloat32S_any _ _ zs (HL7.out.2 _ _ (.tail _ (.tail _ (.tail _ (.tail _ (.tail _ (.head _))))))) hl).mono ?_
        rintro e w8 ⟨v8, rfl, ho, hb⟩
        have HL8 := Lib.hid ((HL7.out.step hb).add ho.FS); clear ho hb HL7
        go_wp2_with fail
        refine (eqFloat32S_true _ _ _ zs zs (HL8.out.2 _ _ (.tail _ (.tail _ (.head _)))) (HL8.out.2 _ _ (.head _)) rfl (fun _ _ => rfl)).mono ?_
        rintro e w9 ⟨rfl, n4, hw⟩
        have HL9 := Lib.hid (HL8.out.drawn hw); clear hw HL8
        go_wp2_with fail
        refine (toFloat32S_any _ _ ys (HL9.out.2 _ _ (.tail _ (.tail _ (.tail _ (.tail _ (.tail _ (.head _))))))) hl').mono ?_
        rintro e w10 ⟨v10, rfl, ho, hb⟩
        have HL10 := Lib.hid ((HL9.out.step hb).add ho.FS); clear ho hb HL9
        go_wp2_with fail
        refine (eqFloat32S_true _ _ _ ys ys (HL10.out.2 _ _ (.tail _ (.tail _ (.head _)))) (HL10.out.2 _ _ (.head _)) rfl (fun _ _ => rfl)).mono ?_
        rintro e w11 ⟨rfl, n5, hw⟩
        have HL11 := Lib.hid (HL10.out.drawn hw); clear hw HL10
        go_wp2
        go_ret
        exact .mk' rfl HL11.out.1
      · have HH := Lib.hid hs; clear hs
        go_enter Try.func3, Try.ntmps3
        go_wp2_with fail
        refine (toFloat32S_any _ _ zs (HL.out.2 _ _ (.tail _ (.head _))) hl).mono ?_
        rintro e w1 ⟨v1, rfl, ho, hb⟩
        have HL1 := Lib.hid ((HL.out.step hb).add ho.FS); clear ho hb HL
        go_wp2_with fail
        refine (toFloat32S_any _ _ ys (HL1.out.2 _ _ (.tail _ (.head _))) hl').mono ?_
        rintro e w2 ⟨v2, rfl, ho, hb⟩
        have HL2 := Lib.hid ((HL1.out.step hb).add ho.FS); clear ho hb HL1
        go_wp2_with fail
        refine (spec_DotNumbers_no _ _ _ zs ys (HL2.out.2 _ _ (.tail _ (.head _))) (HL2.out.2 _ _ (.head _)) HH.out).mono ?_
        rintro e w3 ⟨rfl, n1, hw⟩
        have HL3 := Lib.hid (HL2.out.drawn hw); clear hw HL2
        go_wp2_with fail
        refine (toFloat32S_any _ _ zs (HL3.out.2 _ _ (.tail _ (.tail _ (.tail _ (.head _))))) hl).mono ?_
        rintro e w4 ⟨v4, rfl, ho, hb⟩
        have HL4 := Lib.hid ((HL3.out.step hb).add ho.FS); clear ho hb HL3
        go_wp2_with fail
        refine (toFloat32S_any _ _ ys (HL4.out.2 _ _ (.tail _ (.tail _ (.tail _ (.head _))))) hl').mono ?_
        rintro e w5 ⟨v5, rfl, ho, hb⟩
        have HL5 := Lib.hid ((HL4.out.step hb).add ho.FS); clear ho hb HL4
        go_wp2_with fail
        refine (impl_DotNumbers_no _ _ _ zs ys (HL5.out.2 _ _ (.tail _ (.head _))) (HL5.out.2 _ _ (.head _)) HH.out).mono ?_
        rintro e w6 ⟨rfl, n2, hw⟩
        have HL6 := Lib.hid (HL5.out.drawn hw); clear hw HL5
        go_wp2_with fail
        refine (sameFloat_w _ _ rfl _ _ _).mono ?_
        rintro e w7 ⟨rfl, n3, hw⟩
        rw [World.drewN_drewN] at hw
        have HL7 := Lib.hid (HL6.out.drawn hw); clear hw HL6
        go_wp2_with fail
        refine (toFloat32S_any _ _ zs (HL7.out.2 _ _ (.tail _ (.tail _ (.tail _ (.tail _ (.tail _ (.head _))))))) hl).mono ?_
        rintro e w8 ⟨v8, rfl, ho, hb⟩
        have HL8 := Lib.hid ((HL7.out.step hb).add ho.FS); clear ho hb HL7
        go_wp2_with fail
        refine (eqFloat32S_true _ _ _ zs zs (HL8.out.2 _ _ (.tail _ (.tail _ (.head _)))) (HL8.out.2 _ _ (.head _)) rfl (fun _ _ => rfl)).mono ?_
        rintro e w9 ⟨rfl, n4, hw⟩
        have HL9 := Lib.hid (HL8.out.drawn hw); clear hw HL8
        go_wp2_with fail
        refine (toFloat32S_any _ _ ys (HL9.out.2 _ _ (.tail _ (.tail _ (.tail _ (.tail _ (.tail _ (.head _))))))) hl').mono ?_
        rintro e w10 ⟨v10, rfl, ho, hb⟩
        have HL10 := Lib.hid ((HL9.out.step hb).add ho.FS); clear ho hb HL9
        go_wp2_with fail
        refine (eqFloat32S_true _ _ _ ys ys (HL10.out.2 _ _ (.tail _ (.tail _ (.head _)))) (HL10.out.2 _ _ (.head _)) rfl (fun _ _ => rfl)).mono ?_
        rintro e w11 ⟨rfl, n5, hw⟩
        have HL11 := Lib.hid (HL10.out.drawn hw); clear hw HL10
        go_wp2
        go_ret
        exact .mk' rfl HL11.out.1
    · obtain ⟨a, len, cap, rfl⟩ := h.shape
      obtain ⟨rfl, hm, _⟩ := h.at
      obtain ⟨a', len', cap', rfl⟩ := h'.shape
      obtain ⟨rfl, hm', _⟩ := h'.at
      unfold maxLen at hm hm'
      clear h h'
      go_enter Try.func3, Try.ntmps3
      go_wp2
      go_ret
      exact .mk' rfl (Below.refl _ _)
  · obtain ⟨a, len, cap, rfl⟩ := h.shape
    obtain ⟨rfl, hm, _⟩ := h.at
    obtain ⟨a', len', cap', rfl⟩ := h'.shape
    unfold maxLen at hm
    clear h h'
    go_enter Try.func3, Try.ntmps3
    go_wp2
    go_ret
    exact .mk' rfl (Below.refl _ _)

end Go.Proofs.Ytdkgdinbglkjcaa
