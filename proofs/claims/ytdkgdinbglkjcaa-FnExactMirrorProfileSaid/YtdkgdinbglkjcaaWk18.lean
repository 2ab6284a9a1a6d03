/- RunApart: the walks of the reference and of the program. -/
import Derived.Test.YtdkgdinbglkjcaaWk17
import Derived.Test.YtdkgdinbglkjcaaWk4
namespace Go.Proofs.Ytdkgdinbglkjcaa
open Fl Go.RowKit

/-- Is air apart behind the first k angles? -/
def apS (zs : List Nat) (u d : Nat) : Nat → Bool
  | 0 => false
  | k + 1 => apartOf (apS zs u d k) (zs.getD k 0) u d
def apL (zs : List Nat) (u d k : Nat) : List Bool := (List.range k).map fun i => apS zs u d (i + 1)
theorem apL_len (zs : List Nat) (u d k : Nat) : (apL zs u d k).length = k := by unfold apL; simp
theorem apL_succ (zs : List Nat) (u d k : Nat) : apL zs u d (k + 1) = apL zs u d k ++ [apS zs u d (k + 1)] := by unfold apL; rw [List.range_succ, List.map_append]; rfl
def runOk (zs : List Nat) (u d : Nat) : Bool := decide (zs.length ≤ 256) && edges u d && !zs.any notFin
def runL (zs : List Nat) (u d : Nat) : List Bool := if runOk zs u d then apL zs u d zs.length else []
theorem runL_yes {zs : List Nat} {u d : Nat} (h : runOk zs u d = true) : runL zs u d = apL zs u d zs.length := by unfold runL; rw [h]; rfl
theorem runL_no {zs : List Nat} {u d : Nat} (h : runOk zs u d = false) : runL zs u d = [] := by unfold runL; rw [h]; rfl
theorem runOk_long {zs : List Nat} {u d : Nat} (h : ¬ zs.length ≤ 256) : runOk zs u d = false := by unfold runOk; rw [decide_eq_false h]; rfl
theorem runOk_edge {zs : List Nat} {u d : Nat} (h : edges u d = false) : runOk zs u d = false := by unfold runOk; rw [h]; simp
theorem runOk_inf {zs : List Nat} {u d k : Nat} (hk : k < zs.length) (h : finb FloatKind.f32.format (zs.getD k 0) = false) : runOk zs u d = false := by
  have : zs.any notFin = true := any_true hk (by unfold notFin; rw [h]; rfl)
  unfold runOk; rw [this]; simp
theorem runOk_yes {zs : List Nat} {u d : Nat} (hl : zs.length ≤ 256) (he : edges u d = true) (hf : ∀ k, k < zs.length → finb FloatKind.f32.format (zs.getD k 0) = true) : runOk zs u d = true := by
  have : zs.any notFin = false := any_false fun i hi => by unfold notFin; rw [hf i hi]; rfl
  unfold runOk; rw [decide_eq_true hl, he, this]; rfl

theorem infoB : (Try.prog.info? 4).map (fun i => (i.zero, i.size, i.bytes)) = some (some (.bool false), 1, 1) := by kernel_rfl
/-- The call returns a list of truths of its own, and a truth. -/
def RetO (bs : List Bool) (ok : Bool) (w : World) (e : Ending) (w' : World) : Prop :=
  ∃ v, e = .returned (.tuple #[v, .bool ok]) ∧ w'.ownsRow w.heap.size 4 1 v bs.length (bs.map Value.bool) ∧ Below w.heap.size w w'

theorem pair_FS (x u : Nat) (w : World) : FS (w.alloc (.cells #[.float .f32 x, .float .f32 u] 23)) (.slice (some ⟨w.heap.size, 0, none⟩) 2 2) [x, u] := by
  refine ⟨_, _, _, rfl, rfl, by decide, .inr ⟨_, _, rfl, by simp, fun i hi => ?_⟩⟩
  match i, hi with
  | 0, _ => simp [go_sem]
  | 1, _ => simp [go_sem]

set_option maxRecDepth 20000 in
set_option maxHeartbeats 1600000 in
theorem spec_RunApart (w : World) (v : Value) (zs : List Nat) (u d : Nat) (h : FS w v zs) : Calls Try.prog 31 #[v, .float .f32 u, .float .f32 d] w (RetO (runL zs u d) (runOk zs u d) w) := by
  obtain ⟨a, len, cap, rfl⟩ := h.shape
  obtain ⟨rfl, hm, HC⟩ := h.at
  obtain ⟨i0, hi, hz0, hz1, hz2⟩ := info_parts infoB
  unfold maxLen at hm
  clear h
  by_cases hl : zs.length ≤ 256
  · cases he : edges u d
    · have HR := Lib.hid (runOk_edge (zs := zs) he)
      have HE := Lib.hid he; clear he
      go_enter Try.func31, Try.ntmps31
      go_wp2_with fail
      refine (spec_l01Few _ _ _ _ true (decide_eq_true hl)).mono ?_
      rintro e w1 ⟨rfl, n1, hw1⟩
      have HB0 : Hid (Below w.heap.size w w1) := Lib.hid (by rw [hw1]; exact below_dn (Below.refl _ _) _)
      clear hw1
      go_wp2_with fail
      refine (spec_l02Edges _ _ _).mono ?_
      rintro e w1' ⟨rfl, n2, hw1⟩
      rw [HE.out]
      have HB1 : Hid (Below w.heap.size w w1') := Lib.hid (by rw [hw1]; exact below_dn HB0.out _)
      clear hw1
      go_wp2
      go_ret2
      exact ⟨.slice none 0 0, by rw [HR.out]; rfl, by rw [runL_no HR.out]; exact World.ownsRow_nil _ _ _ _, HB1.out⟩
    · have HE := Lib.hid he
      have hd : fin FloatKind.f32.format d := finb_iff.1 (edges_fin he).2
      have HD := Lib.hid hd; clear he hd
      go_enter Try.func31, Try.ntmps31
      go_wp2_with fail
      refine (spec_l01Few _ _ _ _ true (decide_eq_true hl)).mono ?_
      rintro e w1 ⟨rfl, n1, hw1⟩
      have HB0 : Hid (Below w.heap.size w w1) := Lib.hid (by rw [hw1]; exact below_dn (Below.refl _ _) _)
      clear hw1
      go_wp2_with fail
      refine (spec_l02Edges _ _ _).mono ?_
      rintro e w1' ⟨rfl, n2, hw1⟩
      rw [HE.out]
      have HB1 : Hid (Below w.heap.size w w1') := Lib.hid (by rw [hw1]; exact below_dn HB0.out _)
      clear hw1
      go_wp2_with fail
      go_loopw [8, 9, 10] (fun v s i wr => ∃ k : Nat, k ≤ zs.length ∧ s = .bool (apS zs u d k) ∧ i = .int .i64 k ∧ wr.ownsRow w.heap.size 4 1 v k ((apL zs u d k).map Value.bool) ∧ Below w.heap.size w wr ∧ Hid (∀ j, j < k → finb FloatKind.f32.format (zs.getD j 0) = true)) (fun _ _ i _ => zs.length - (intOf i).toNat)
      case atStart => exact ⟨0, Nat.zero_le _, rfl, rfl, World.ownsRow_made _ _ 0 HB1.out.size (by unfold maxLen; omega) rfl, HB1.out.alloc HB1.out.size _, Lib.hid fun j hj => absurd hj (Nat.not_lt_zero _)⟩
      case round =>
        obtain ⟨k, hk, rfl, rfl, hown, hbel, HF⟩ := hrel
        have HO := Lib.hid hown; have HB := Lib.hid hbel; clear hown hbel
        by_cases hlt : k < zs.length
        · obtain ⟨bl, ol, rfl, hbl, hL⟩ := HC.out k hlt
          have hL' : wr.cell? ⟨bl, ol + k, none⟩ = some (.float .f32 (zs.getD k 0)) := (HB.out.cell (p := ⟨bl, ol + k, none⟩) hbl).trans hL
          have HS : Hid (apS zs u d (k + 1) = apartOf (apS zs u d k) (zs.getD k 0) u d) := Lib.hid rfl
          have HX : Hid (finb FloatKind.f32.format (zs.getD k 0) = false → runOk zs u d = false) := Lib.hid (runOk_inf hlt)
          have HY : Hid (finb FloatKind.f32.format (zs.getD k 0) = true → ∀ j, j < k + 1 → finb FloatKind.f32.format (zs.getD j 0) = true) := Lib.hid fun hz j hj => by
            rcases Nat.lt_or_ge j k with q | q
            · exact HF.out j q
            · obtain rfl : j = k := by omega
              exact hz
          have q0 : (k : Int) < zs.length := by omega
          have q1 : (zs.length : Int) ≤ 256 := by omega
          generalize zs.getD k 0 = z at *
          generalize apS zs u d k = s at *
          clear hL HF
          cases hf : finb FloatKind.f32.format z
          · have HR := Lib.hid (HX.out hf)
            have HFZ := Lib.hid hf; clear hf HX HY HS
            go_wp2_with fail
            refine (spec_l01Finite _ _).mono ?_
            rintro e w2 ⟨rfl, n2, hw2⟩
            rw [HFZ.out]
            have HB2 : Hid (Below w.heap.size w w2) := Lib.hid (by rw [hw2]; exact below_dn HB.out _)
            clear hw2
            go_wp2
            go_ret2
            exact ⟨.slice none 0 0, by rw [HR.out]; rfl, by rw [runL_no HR.out]; exact World.ownsRow_nil _ _ _ _, HB2.out⟩
          · have HF1 := Lib.hid (HY.out hf)
            have HFZ := Lib.hid hf; clear hf HX HY
            go_wp2_with fail
            refine (spec_l01Finite _ _).mono ?_
            rintro e w2 ⟨rfl, n2, hw2⟩
            rw [HFZ.out]
            have hL2 : w2.cell? ⟨bl, ol + k, none⟩ = some (.float .f32 z) := by rw [hw2]; exact hL'
            have HO2' : Hid (w2.ownsRow w.heap.size 4 1 u8 k ((apL zs u d k).map Value.bool)) := Lib.hid (by rw [hw2]; exact HO.out)
            have HB2' : Hid (Below w.heap.size w w2) := Lib.hid (by rw [hw2]; exact below_dn HB.out _)
            clear hw2 hL'
            go_wp2_with fail
            refine (spec_l02Apart _ _ _ _ (finb_iff.1 HFZ.out) HD.out _).mono ?_
            rintro e w2' ⟨rfl, n3, hw2⟩
            have HO2 : Hid (w2'.ownsRow w.heap.size 4 1 u8 k ((apL zs u d k).map Value.bool)) := Lib.hid (by rw [hw2]; exact HO2'.out)
            have HB2 : Hid (Below w.heap.size w w2') := Lib.hid (by rw [hw2]; exact below_dn HB2'.out _)
            clear hw2 HO2' HB2' hL2
            obtain ⟨b, hb⟩ : ∃ b, apartOf s z u d = b := ⟨_, rfl⟩
            rw [hb]
            have HS1 : Hid (apS zs u d (k + 1) = b) := Lib.hid (by rw [HS.out, hb])
            clear hb HS
            go_wp2_with (at_builtin; refine wpList_append_own _ rfl _ _ 41 rfl w.heap.size 4 i0 (.bool false) 1 1 Try.underlying41 hi hz0 hz1 hz2 rfl (by decide) _ _ _ rfl (HO2.out.alloc _) ⟨w2'.heap.size, 0, none⟩ 1 1 [.bool b] rfl rfl ?c1 ?c2 ?c3 ?c4 ?c5 ?_)
            case c1 =>
              intro j x hj
              match j, hj with
              | 0, hj => simp at hj; subst hj; simp [Addr.add]
            case c2 => intro x hx; simp at hx; subst hx; rfl
            case c3 => unfold maxLen; omega
            case c4 => omega
            case c5 => have := HB2.out.size; simp; omega
            intro v' w3 hown' hgrow _
            have HO3 := Lib.hid hown'
            have HB3 : Hid (Below w.heap.size w w3) := Lib.hid (Below.grown (HB2.out.alloc HB2.out.size _) hgrow (by have := HB2.out.size; simp; omega) (fun k hk => (HO2.out.lt k hk).1))
            clear hown' hgrow
            go_wp2
            go_roundw
            case rel => exact ⟨k + 1, by omega, by rw [HS1.out], by go_num, by rw [apL_succ, List.map_append, HS1.out]; exact HO3.out, HB3.out, HF1⟩
            case measure => simp [intOf]; omega
        · have hkl : k = zs.length := by omega
          subst hkl
          have HR : Hid (runOk zs u d = true) := Lib.hid (runOk_yes (by omega) HE.out HF.out)
          go_wp2
          go_ret2
          exact ⟨_, by rw [HR.out]; rfl, by rw [runL_yes HR.out, apL_len]; exact HO.out, HB.out⟩
  · have HR := Lib.hid (runOk_long (u := u) (d := d) hl)
    go_enter Try.func31, Try.ntmps31
    go_wp2_with fail
    refine (spec_l01Few _ _ _ _ false (decide_eq_false hl)).mono ?_
    rintro e w1 ⟨rfl, n1, hw1⟩
    have HB0 : Hid (Below w.heap.size w w1) := Lib.hid (by rw [hw1]; exact below_dn (Below.refl _ _) _)
    clear hw1
    go_wp2
    go_ret2
    exact ⟨.slice none 0 0, by rw [HR.out]; rfl, by rw [runL_no HR.out]; exact World.ownsRow_nil _ _ _ _, HB0.out⟩

set_option maxRecDepth 20000 in
set_option maxHeartbeats 1600000 in
theorem impl_RunApart (w : World) (v : Value) (zs : List Nat) (u d : Nat) (h : FS w v zs) : Calls Try.prog 32 #[v, .float .f32 u, .float .f32 d] w (RetO (runL zs u d) (runOk zs u d) w) := by
  obtain ⟨a, len, cap, rfl⟩ := h.shape
  obtain ⟨rfl, hm, HC⟩ := h.at
  obtain ⟨i0, hi, hz0, hz1, hz2⟩ := info_parts infoB
  unfold maxLen at hm
  clear h
  by_cases hl : zs.length ≤ 256
  · cases he : edges u d
    · have HR := Lib.hid (runOk_edge (zs := zs) he)
      cases hany : [u, d].any notFin
      · have hg : (FloatKind.f32.format.order d u == some .gt) = true := by
          simp only [List.any_cons, List.any_nil, Bool.or_false, Bool.or_eq_false_iff, notFin, Bool.not_eq_false'] at hany
          unfold edges at he
          rw [hany.1, hany.2] at he
          simpa using he
        have HA := Lib.hid hany; clear he hany
        go_enter Try.func32, Try.ntmps32
        go_wp2_with fail
        refine (impl_areFinite _ _ [u, d] (pair_FS _ _ _)).mono ?_
        rintro e w1 ⟨rfl, n1, hw1⟩
        rw [HA.out]
        have HB1 : Hid (Below w.heap.size w w1) := Lib.hid (by rw [hw1]; exact below_dn ((Below.refl _ _).alloc (Nat.le_refl _) _) _)
        clear hw1
        go_wp2
        go_ret2
        exact ⟨.slice none 0 0, by rw [HR.out]; rfl, by rw [runL_no HR.out]; exact World.ownsRow_nil _ _ _ _, HB1.out⟩
      · have HA := Lib.hid hany; clear he hany
        go_enter Try.func32, Try.ntmps32
        go_wp2_with fail
        refine (impl_areFinite _ _ [u, d] (pair_FS _ _ _)).mono ?_
        rintro e w1 ⟨rfl, n1, hw1⟩
        rw [HA.out]
        have HB1 : Hid (Below w.heap.size w w1) := Lib.hid (by rw [hw1]; exact below_dn ((Below.refl _ _).alloc (Nat.le_refl _) _) _)
        clear hw1
        go_wp2
        go_ret2
        exact ⟨.slice none 0 0, by rw [HR.out]; rfl, by rw [runL_no HR.out]; exact World.ownsRow_nil _ _ _ _, HB1.out⟩
    · have hany : [u, d].any notFin = false := by have h2 := edges_fin he; simp [notFin, h2.1, h2.2]
      have hg := edges_gt he
      have HE := Lib.hid he; have HA := Lib.hid hany; clear he hany
      go_enter Try.func32, Try.ntmps32
      go_wp2_with fail
      refine (impl_areFinite _ _ [u, d] (pair_FS _ _ _)).mono ?_
      rintro e w1 ⟨rfl, n1, hw1⟩
      rw [HA.out]
      have HB1 : Hid (Below w.heap.size w w1) := Lib.hid (by rw [hw1]; exact below_dn ((Below.refl _ _).alloc (Nat.le_refl _) _) _)
      clear hw1
      go_wp2_with fail
      go_loopw [8, 9, 32] (fun v s i wr => ∃ k : Nat, k ≤ zs.length ∧ s = .bool (apS zs u d k) ∧ i = .int .i64 k ∧ wr.ownsRow w.heap.size 4 1 v k ((apL zs u d k).map Value.bool) ∧ Below w.heap.size w wr ∧ Hid (∀ j, j < k → finb FloatKind.f32.format (zs.getD j 0) = true)) (fun _ _ i _ => zs.length - (intOf i).toNat)
      case atStart => exact ⟨0, Nat.zero_le _, rfl, rfl, World.ownsRow_made _ _ 0 HB1.out.size (by unfold maxLen; omega) rfl, HB1.out.alloc HB1.out.size _, Lib.hid fun j hj => absurd hj (Nat.not_lt_zero _)⟩
      case round =>
        obtain ⟨k, hk, rfl, rfl, hown, hbel, HF⟩ := hrel
        have HO := Lib.hid hown; have HB := Lib.hid hbel; clear hown hbel
        by_cases hlt : k < zs.length
        · obtain ⟨bl, ol, rfl, hbl, hL⟩ := HC.out k hlt
          have hL' : wr.cell? ⟨bl, ol + k, none⟩ = some (.float .f32 (zs.getD k 0)) := (HB.out.cell (p := ⟨bl, ol + k, none⟩) hbl).trans hL
          have HS : Hid (apS zs u d (k + 1) = apartOf (apS zs u d k) (zs.getD k 0) u d) := Lib.hid rfl
          have HX : Hid (finb FloatKind.f32.format (zs.getD k 0) = false → runOk zs u d = false) := Lib.hid (runOk_inf hlt)
          have HY : Hid (finb FloatKind.f32.format (zs.getD k 0) = true → ∀ j, j < k + 1 → finb FloatKind.f32.format (zs.getD j 0) = true) := Lib.hid fun hz j hj => by
            rcases Nat.lt_or_ge j k with q | q
            · exact HF.out j q
            · obtain rfl : j = k := by omega
              exact hz
          have q0 : (k : Int) < zs.length := by omega
          have q1 : (zs.length : Int) ≤ 256 := by omega
          generalize zs.getD k 0 = z at *
          generalize apS zs u d k = s at *
          clear hL HF
          cases hf : finb FloatKind.f32.format z
          · have HR := Lib.hid (HX.out hf)
            have HFZ := Lib.hid hf; clear hf HX HY HS
            go_wp2_with fail
            refine (impl_StepApart_no _ _ _ _ (by rw [HFZ.out]; rfl) _).mono ?_
            rintro e w2 ⟨rfl, hb⟩
            have HB2 := Lib.hid (HB.out.trans (hb.mono HB.out.size)); clear hb
            go_wp2
            go_ret2
            exact ⟨.slice none 0 0, by rw [HR.out]; rfl, by rw [runL_no HR.out]; exact World.ownsRow_nil _ _ _ _, HB2.out⟩
          · have HF1 := Lib.hid (HY.out hf)
            have HFZ := Lib.hid hf; clear hf HX HY
            go_wp2_with fail
            refine (impl_StepApart_yes _ _ _ _ HFZ.out HE.out _).mono ?_
            rintro e w2 ⟨rfl, hb⟩
            have HO2 : Hid (w2.ownsRow w.heap.size 4 1 u8 k ((apL zs u d k).map Value.bool)) := Lib.hid (HO.out.kept (gb_below hb none) (by cases u8.ownBlock <;> simp))
            have HB2 := Lib.hid (HB.out.trans (hb.mono HB.out.size)); clear hb hL'
            obtain ⟨b, hb⟩ : ∃ b, apartOf s z u d = b := ⟨_, rfl⟩
            rw [hb]
            have HS1 : Hid (apS zs u d (k + 1) = b) := Lib.hid (by rw [HS.out, hb])
            clear hb HS
            go_wp2_with (at_builtin; refine wpList_append_own _ rfl _ _ 41 rfl w.heap.size 4 i0 (.bool false) 1 1 Try.underlying41 hi hz0 hz1 hz2 rfl (by decide) _ _ _ rfl (HO2.out.alloc _) ⟨w2.heap.size, 0, none⟩ 1 1 [.bool b] rfl rfl ?c1 ?c2 ?c3 ?c4 ?c5 ?_)
            case c1 =>
              intro j x hj
              match j, hj with
              | 0, hj => simp at hj; subst hj; simp [Addr.add]
            case c2 => intro x hx; simp at hx; subst hx; rfl
            case c3 => unfold maxLen; omega
            case c4 => omega
            case c5 => have := HB2.out.size; simp; omega
            intro v' w3 hown' hgrow _
            have HO3 := Lib.hid hown'
            have HB3 : Hid (Below w.heap.size w w3) := Lib.hid (Below.grown (HB2.out.alloc HB2.out.size _) hgrow (by have := HB2.out.size; simp; omega) (fun k hk => (HO2.out.lt k hk).1))
            clear hown' hgrow
            go_wp2
            go_roundw
            case rel => exact ⟨k + 1, by omega, by rw [HS1.out], by go_num, by rw [apL_succ, List.map_append, HS1.out]; exact HO3.out, HB3.out, HF1⟩
            case measure => simp [intOf]; omega
        · have hkl : k = zs.length := by omega
          subst hkl
          have HR : Hid (runOk zs u d = true) := Lib.hid (runOk_yes (by omega) HE.out HF.out)
          go_wp2
          go_ret2
          exact ⟨_, by rw [HR.out]; rfl, by rw [runL_yes HR.out, apL_len]; exact HO.out, HB.out⟩
  · have HR := Lib.hid (runOk_long (u := u) (d := d) hl)
    go_enter Try.func32, Try.ntmps32
    go_wp2
    go_ret2
    exact ⟨.slice none 0 0, by rw [HR.out]; rfl, by rw [runL_no HR.out]; exact World.ownsRow_nil _ _ _ _, Below.refl _ _⟩

end Go.Proofs.Ytdkgdinbglkjcaa
