/- DropKnot: the program (printed by gdrop.py; the region's walk by the kit's regions.py). -/
import Derived.Test.YtdkgdinbglkjcaaWk25
import Derived.Test.YtdkgdinbglkjcaaWk27
import Derived.Test.YtdkgdinbglkjcaaWk1
namespace Go.Proofs.Ytdkgdinbglkjcaa
open Fl Go.RowKit YtdkgdinbglkjcaaW.PrintLast

theorem ap_as {v v' u : Value} (h : Ap v u) (hb : v'.ownBlock = v.ownBlock) : Ap v' u := by unfold Ap at *; rw [hb]; exact h
theorem cut_len {zs : List Nat} {i : Nat} (h : i < zs.length) : (zs.take i ++ zs.drop (i + 1)).length = zs.length - 1 := by simp; omega
theorem Mid.turnA {w w' : World} {ob B : Nat} {w0 : World} {x y z a a' l d : Value} {A A' L D : List Nat} (h : Mid w ob B w0 x y z a l d A L D)
    (ho : w'.ownsRow B 23 1 a' A'.length (A'.map (Value.float .f32))) (hb : a'.ownBlock = a.ownBlock) (hg : w.grownBy w' a.ownBlock) : Mid w' ob B w0 x y z a' l d A' L D :=
  ⟨⟨ho, h.own.ol.kept hg h.own.al.symm, h.own.od.kept hg h.own.ad.symm, ap_as h.own.al hb, ap_as h.own.ad hb, h.own.ld⟩, h.blk.kept hg (own_ne_box h.own.oa h.blk), h.bB, h.bel.grown hg h.sz (fun k hk => (h.own.oa.lt k hk).1), Nat.le_trans h.sz hg.size⟩
theorem Mid.turnL {w w' : World} {ob B : Nat} {w0 : World} {x y z a l l' d : Value} {A L L' D : List Nat} (h : Mid w ob B w0 x y z a l d A L D)
    (ho : w'.ownsRow B 23 1 l' L'.length (L'.map (Value.float .f32))) (hb : l'.ownBlock = l.ownBlock) (hg : w.grownBy w' l.ownBlock) : Mid w' ob B w0 x y z a l' d A L' D :=
  ⟨⟨h.own.oa.kept hg h.own.al, ho, h.own.od.kept hg h.own.ld.symm, (ap_as h.own.al.symm hb).symm, h.own.ad, ap_as h.own.ld hb⟩, h.blk.kept hg (own_ne_box h.own.ol h.blk), h.bB, h.bel.grown hg h.sz (fun k hk => (h.own.ol.lt k hk).1), Nat.le_trans h.sz hg.size⟩
theorem Mid.turnD {w w' : World} {ob B : Nat} {w0 : World} {x y z a l d d' : Value} {A L D D' : List Nat} (h : Mid w ob B w0 x y z a l d A L D)
    (ho : w'.ownsRow B 23 1 d' D'.length (D'.map (Value.float .f32))) (hb : d'.ownBlock = d.ownBlock) (hg : w.grownBy w' d.ownBlock) : Mid w' ob B w0 x y z a l d' A L D' :=
  ⟨⟨h.own.oa.kept hg h.own.ad, h.own.ol.kept hg h.own.ld, ho, h.own.al, (ap_as h.own.ad.symm hb).symm, (ap_as h.own.ld.symm hb).symm⟩, h.blk.kept hg (own_ne_box h.own.od h.blk), h.bB, h.bel.grown hg h.sz (fun k hk => (h.own.od.lt k hk).1), Nat.le_trans h.sz hg.size⟩
theorem Mid.put0 {w : World} {ob B : Nat} {w0 : World} {x y z a l d : Value} {A L D : List Nat} (h : Mid w ob B w0 x y z a l d A L D) : Mid (w.setCell ⟨ob, 0, none⟩ a) ob B w0 a y z a l d A L D :=
  ⟨h.own.setBox h.blk 0 a, h.blk.set 0 a, h.bB, h.bel.setCell (p := ⟨ob, 0, none⟩) h.bB a, by have := h.sz; simpa [World.setCell] using this⟩
/-- What is picked when one place is left out. -/
theorem sel_drop (X : List Nat) (m : Nat) : ∀ k, k ≤ X.length → sel (fun k => ((k : Nat) : Int) != (m : Int)) X k = if k ≤ m then X.take k else X.take m ++ (X.take k).drop (m + 1)
  | 0, _ => by simp [sel]
  | k + 1, hk => by
    have ih := sel_drop X m k (by omega)
    have e1 : X.take (k + 1) = X.take k ++ [X.getD k 0] := by rw [List.take_add_one, List.getElem?_eq_getElem (by omega), getD_lt (by omega)]; rfl
    by_cases h : k = m
    · subst h
      rw [sel_no (by simp), ih, if_pos (Nat.le_refl _), if_neg (by omega), List.drop_eq_nil_of_le (by rw [List.length_take]; omega), List.append_nil]
    · rw [sel_yes (by simp; omega), ih]
      rcases Nat.lt_or_ge k m with q | q
      · rw [if_pos (by omega), if_pos (by omega), e1]
      · rw [if_neg (by omega), if_neg (by omega), e1, List.drop_append_of_le_length (by rw [List.length_take]; omega), List.append_assoc]
theorem sel_dropped {X : List Nat} {m n : Nat} (hn : n = X.length) (hm : m < X.length) : sel (fun k => ((k : Nat) : Int) != (m : Int)) X n = X.take m ++ X.drop (m + 1) := by
  subst hn
  rw [sel_drop X m _ (Nat.le_refl _), if_neg (by omega), List.take_length]

theorem isKnot_is (w : World) (a l d : Value) (A : List Nat) (i : Int) (b : Bool) (h : FS w a A) (hA : A.length ≤ 24) (hb : b = decide (0 ≤ i ∧ i < A.length)) : Calls Try.prog 86 #[.agg #[a, l, d], .int .i64 i] w (RetB (.bool b) w) := by
  obtain ⟨a1, a2, a3, rfl⟩ := h.shape
  obtain ⟨rfl, _⟩ := h.at
  obtain ⟨w0, hw0⟩ : ∃ w0, w0 = w.alloc (Obj.cells #[Value.slice a1 A.length a3, l, d] 36) := ⟨_, rfl⟩
  have HB : Hid (Below w.heap.size w w0) := Lib.hid (by rw [hw0]; exact (Below.refl _ _).alloc (Nat.le_refl _) _)
  have K : Blk w0 w.heap.size #[Value.slice a1 A.length a3, l, d] 36 := by rw [hw0]; exact Blk.new _ _ _
  have c0 : w0.cell? ⟨w.heap.size, 0, none⟩ = some (Value.slice a1 A.length a3) := K.cell 0
  have q0 : (A.length : Int) ≤ 24 := by omega
  clear h K
  cases b
  · have hg' : i < 0 ∨ (A.length : Int) - 1 < i := by have h2 := of_decide_eq_false hb.symm; omega
    clear hb
    go_enter Try.func86, Try.ntmps86
    go_wp2_with fail
    rw [← hw0]
    clear hw0
    refine (impl_within_no _ _ _ hg' _).mono ?_
    rintro e w1 ⟨rfl, n1, rfl⟩
    go_wp2
    go_ret
    exact .mk' rfl (below_dn HB.out _)
  · have hg1 : 0 ≤ i := by have h2 := of_decide_eq_true hb.symm; omega
    have hg2 : i ≤ (A.length : Int) - 1 := by have h2 := of_decide_eq_true hb.symm; omega
    clear hb
    go_enter Try.func86, Try.ntmps86
    go_wp2_with fail
    rw [← hw0]
    clear hw0
    refine (impl_within_yes _ _ _ hg1 hg2 _).mono ?_
    rintro e w1 ⟨rfl, n1, rfl⟩
    go_wp2
    go_ret
    exact .mk' rfl (below_dn HB.out _)

set_option maxRecDepth 8000 in
set_option maxHeartbeats 1600000 in
theorem impl_DropKnot (w : World) (v : Value) (A L D : List Nat) (i : Int) (h : PS w v A L D) : Calls Try.prog 56 #[v, .int .i64 i] w (SelT (decide (0 ≤ i ∧ i < A.length)) (fun k => ((k : Nat) : Int) != i) A L D w) := by
  have P := Lib.hid h
  obtain ⟨a1, a2, a3, l1, l2, l3, d1, d2, d3, rfl, fa, _⟩ := h.shape
  obtain ⟨k1, k2, hb, hz⟩ := box2 w #[Value.slice a1 a2 a3, Value.slice l1 l2 l3, Value.slice d1 d2 d3] #[Value.slice none 0 0, Value.slice none 0 0, Value.slice none 0 0] 36 36
  obtain ⟨wb, hwb⟩ : ∃ wb, wb = ((w.alloc (Obj.cells #[Value.slice a1 a2 a3, Value.slice l1 l2 l3, Value.slice d1 d2 d3] 36)).alloc (Obj.cells #[Value.slice none 0 0, Value.slice none 0 0, Value.slice none 0 0] 36)) := ⟨_, rfl⟩
  rw [← hwb] at k1 k2 hb hz
  replace P := Lib.hid (P.out.later hb)
  have FA := Lib.hid (fa.later hb)
  have K1 := Lib.hid k1; have K2 := Lib.hid k2; have HB := Lib.hid hb
  have HZ := Lib.hid hz
  clear h k1 k2 hb hz fa
  obtain ⟨⟨k0, k1, k2⟩, _⟩ := cells3 K1.out
  have VP := Lib.hid (impl_ValidProfile (A := A) (L := L) (D := D))
  obtain ⟨ok, hok⟩ : ∃ ok, validB A L D = ok := ⟨_, rfl⟩
  obtain ⟨g, hgd⟩ : ∃ g, g = decide (0 ≤ i ∧ i < A.length) := ⟨_, rfl⟩
  rw [hok] at VP
  cases ok
  · have HR : Hid (∀ w', Below w.heap.size w w' → SelT (decide (0 ≤ i ∧ i < A.length)) (fun k => ((k : Nat) : Int) != i) A L D w (.returned (.tuple #[.agg #[.slice none 0 0, .slice none 0 0, .slice none 0 0], .bool false])) w') := Lib.hid fun w' hb => retT_no (by rw [hok]; rfl) hb
    clear hok hgd
    go_enter Try.func56, Try.ntmps56
    go_wp2_with fail
    rw [← hwb]
    clear hwb
    refine (VP.out _ _ P.out).mono ?_
    rintro e w1 ⟨rfl, hb⟩
    clear k0 k1 k2
    replace K2 := Lib.hid (K2.out.later hb)
    replace HB := Lib.hid (HB.out.trans (hb.mono HB.out.size))
    clear hb P K1 FA
    obtain ⟨⟨r0, r1, r2⟩, f0, f1, f2⟩ := cells3 K2.out
    go_wp2
    have KF := Lib.hid (set3_blk K2.out (Value.slice none 0 0) (Value.slice none 0 0) (Value.slice none 0 0))
    obtain ⟨⟨q0, q1, q2⟩, _⟩ := cells3 KF.out
    unfold set3 at q0 q1 q2
    refine bodyPost_ret (v := .tuple #[.agg #[Value.slice none 0 0, Value.slice none 0 0, Value.slice none 0 0], .bool false]) (by simp [results, Try.results56, go_sem, q0, q1, q2]) rfl ?_
    exact HR.out _ (set3_below HB.out (by omega) _ _ _)
  obtain ⟨s1, s2, s3, s4⟩ := sizes_spec (valid_sizes hok)
  cases g
  · have HR : Hid (∀ w', Below w.heap.size w w' → SelT (decide (0 ≤ i ∧ i < A.length)) (fun k => ((k : Nat) : Int) != i) A L D w (.returned (.tuple #[.agg #[.slice none 0 0, .slice none 0 0, .slice none 0 0], .bool false])) w') := Lib.hid fun w' hb => retT_no (by rw [← hgd, Bool.and_false, Bool.false_and]) hb
    have IK := Lib.hid (fun w' (h' : FS w' (Value.slice a1 a2 a3) A) => isKnot_is w' _ (Value.slice l1 l2 l3) (Value.slice d1 d2 d3) A i false h' s2 hgd)
    clear hok hgd s1 s2 s3 s4
    go_enter Try.func56, Try.ntmps56
    go_wp2_with fail
    rw [← hwb]
    clear hwb
    refine (VP.out _ _ P.out).mono ?_
    rintro e w1 ⟨rfl, hb⟩
    clear k0 k1 k2
    replace K1 := Lib.hid (K1.out.later hb)
    replace K2 := Lib.hid (K2.out.later hb)
    replace FA := Lib.hid (FA.out.later hb)
    replace HB := Lib.hid (HB.out.trans (hb.mono HB.out.size))
    clear hb P
    obtain ⟨⟨k0, k1, k2⟩, _⟩ := cells3 K1.out
    go_wp2_with fail
    refine (IK.out _ FA.out).mono ?_
    rintro e w2 ⟨rfl, hb⟩
    clear k0 k1 k2
    replace K2 := Lib.hid (K2.out.later hb)
    replace HB := Lib.hid (HB.out.trans (hb.mono HB.out.size))
    clear hb K1 FA
    obtain ⟨⟨r0, r1, r2⟩, f0, f1, f2⟩ := cells3 K2.out
    go_wp2
    have KF := Lib.hid (set3_blk K2.out (Value.slice none 0 0) (Value.slice none 0 0) (Value.slice none 0 0))
    obtain ⟨⟨q0, q1, q2⟩, _⟩ := cells3 KF.out
    unfold set3 at q0 q1 q2
    refine bodyPost_ret (v := .tuple #[.agg #[Value.slice none 0 0, Value.slice none 0 0, Value.slice none 0 0], .bool false]) (by simp [results, Try.results56, go_sem, q0, q1, q2]) rfl ?_
    exact HR.out _ (set3_below HB.out (by omega) _ _ _)
  · have hi0 : 0 ≤ i := by have h2 := of_decide_eq_true hgd.symm; omega
    obtain ⟨m, rfl⟩ := Int.eq_ofNat_of_zero_le hi0
    have hm : m < A.length := by have h2 := of_decide_eq_true hgd.symm; omega
    have IK := Lib.hid (fun w' (h' : FS w' (Value.slice a1 a2 a3) A) => isKnot_is w' _ (Value.slice l1 l2 l3) (Value.slice d1 d2 d3) A m true h' s2 hgd)
    have HAm : Hid (m < A.length ∧ A.length ≤ 1000) := Lib.hid (by omega)
    have HLm : Hid (m < L.length ∧ L.length ≤ 1000) := Lib.hid (by omega)
    have HDm : Hid (m < D.length ∧ D.length ≤ 1000) := Lib.hid (by omega)
    have HSe : Hid (∀ b e w', validB (A.take m ++ A.drop (m + 1)) (L.take m ++ L.drop (m + 1)) (D.take m ++ D.drop (m + 1)) = b → RetT (outL b (A.take m ++ A.drop (m + 1))) (outL b (L.take m ++ L.drop (m + 1))) (outL b (D.take m ++ D.drop (m + 1))) b w e w' →
        SelT (decide (0 ≤ (m : Int) ∧ (m : Int) < A.length)) (fun k => ((k : Nat) : Int) != (m : Int)) A L D w e w') := Lib.hid fun b e w' hb hr => by
      unfold SelT
      rw [← hgd, hok, sel_dropped rfl hm, sel_dropped s3.symm (by omega), sel_dropped s4.symm (by omega), hb]
      simpa using hr
    have q4 : (m : Int) < 24 := by omega
    have q5 : (0 : Int) ≤ (m : Int) := by omega
    have hwr : IntKind.i64.wrap ((m : Int) + 1) = (m : Int) + 1 := by rw [IntKind.wrap_i64]; omega
    clear hok hgd s1 s2 s3 s4 hi0 hm
    go_enter Try.func56, Try.ntmps56
    go_wp2_with fail
    rw [← hwb]
    clear hwb
    refine (VP.out _ _ P.out).mono ?_
    rintro e w1 ⟨rfl, hb⟩
    clear k0 k1 k2
    replace K1 := Lib.hid (K1.out.later hb)
    replace K2 := Lib.hid (K2.out.later hb)
    replace FA := Lib.hid (FA.out.later hb)
    replace P := Lib.hid (P.out.later hb)
    replace HZ : Hid (w.heap.size + 2 ≤ w1.heap.size) := Lib.hid (by have := HZ.out; have := hb.size; omega)
    replace HB := Lib.hid (HB.out.trans (hb.mono HB.out.size))
    clear hb
    obtain ⟨⟨k0, k1, k2⟩, _⟩ := cells3 K1.out
    go_wp2_with fail
    refine (IK.out _ FA.out).mono ?_
    rintro e w2 ⟨rfl, hb⟩
    clear k0 k1 k2
    replace K1 := Lib.hid (K1.out.later hb)
    replace K2 := Lib.hid (K2.out.later hb)
    replace P := Lib.hid (P.out.later hb)
    replace HZ : Hid (w.heap.size + 2 ≤ w2.heap.size) := Lib.hid (by have := HZ.out; have := hb.size; omega)
    replace HB := Lib.hid (HB.out.trans (hb.mono HB.out.size))
    clear hb FA
    obtain ⟨⟨k0, k1, k2⟩, _⟩ := cells3 K1.out
    go_wp2_with fail
    refine (impl_copyProfile _ _ _ _ A L D P.out (by have := HAm.out; omega) (by have := HLm.out; omega) (by have := HDm.out; omega)).mono ?_
    rintro e w3 ⟨va, vl, vd, rfl, ho, hb⟩
    clear k0 k1 k2
    obtain ⟨x1, y1, z1, rfl⟩ := own_shape ho.oa
    obtain ⟨x2, y2, z2, rfl⟩ := own_shape ho.ol
    obtain ⟨x3, y3, z3, rfl⟩ := own_shape ho.od
    obtain ⟨wo, hwo⟩ : ∃ wo, wo = w3.alloc (Obj.cells #[Value.slice x1 y1 z1, Value.slice x2 y2 z2, Value.slice x3 y3 z3] 36) := ⟨_, rfl⟩
    have hbo : Below w3.heap.size w3 wo := by rw [hwo]; exact (Below.refl _ _).alloc (Nat.le_refl _) _
    obtain ⟨B, hB⟩ : ∃ B, B = w2.heap.size := ⟨_, rfl⟩
    have hs3 := hb.size
    rw [← hB] at ho hb hs3
    have M0 : Hid (Mid wo w3.heap.size B w2 (Value.slice x1 y1 z1) (Value.slice x2 y2 z2) (Value.slice x3 y3 z3) (Value.slice x1 y1 z1) (Value.slice x2 y2 z2) (Value.slice x3 y3 z3) A L D) := Lib.hid ⟨ho.later hbo, by rw [hwo]; exact Blk.new _ _ _, hs3, hb.trans (hbo.mono hs3), Nat.le_trans hs3 hbo.size⟩
    have HBB : Hid (w.heap.size + 2 ≤ B ∧ Below w.heap.size w w2 ∧ Blk w2 (w.heap.size + 1) #[Value.slice none 0 0, Value.slice none 0 0, Value.slice none 0 0] 36) := Lib.hid ⟨by have := HZ.out; omega, HB.out, K2.out⟩
    clear P ho hb hbo hs3 K1 K2 HZ HB hB
    obtain ⟨⟨o0, o1, o2⟩, e0, e1, e2⟩ := cells3 M0.out.blk
    go_wp2_with fail
    rw [← hwo]
    clear hwo
    refine (delete_own _ _ B A m M0.out.own.oa HAm.out.1 HAm.out.2).mono ?_
    rintro e wd1 ⟨vd1, rfl, hob, hown, hgrow⟩
    obtain ⟨p1, r1, s1, rfl⟩ := own_shape hown
    have MA := Lib.hid (M0.out.turnA (by rw [cut_len HAm.out.1]; exact hown) hob hgrow)
    clear hob hown hgrow o0 o1 o2 e0 e1 e2 M0
    obtain ⟨⟨o0, o1, o2⟩, e0, e1, e2⟩ := cells3 MA.out.blk
    have M0 := Lib.hid MA.out.put0
    go_wp2_with fail
    clear o0 o1 o2 e0 e1 e2 MA
    generalize wd1.setCell ⟨w3.heap.size, 0, none⟩ (.slice p1 r1 s1) = w5 at *
    generalize w3.heap.size = ob at *
    have hd : Below w5.heap.size w5 w5.drew := below_dn (Below.refl _ _) 1
    have M1 := Lib.hid (M0.out.later hd)
    clear M0 hd
    refine start_ (n := 16) (S := fun w' => w'.cell? ⟨ob, 1, none⟩ = some (Value.slice x2 y2 z2) ∧ w'.cell? ⟨ob, 2, none⟩ = some (Value.slice x3 y3 z3)) (ds := [13, 15]) #[false, false, false, false, false, false, false, false, false, false, false, false, false, false, false, false] (by kernel_rfl) rfl rfl ⟨M1.out.blk.cell 1, M1.out.blk.cell 2⟩ (fun hHeld => ?_)
    refine pure_ (i := 0) (N := some 28) (v := ?_) (a' := ?_) #[true, false, false, false, false, false, false, false, false, false, false, false, false, false, false, false] rfl rfl (by kernel_rfl) (fun _ _ _ h => h) (Or.inl ⟨by rfl, ?_⟩) ?_ ?_
    rotate_left
    · intro w'
      go_simp
      with_reducible rfl
    rotate_left
    · simp only [Act.put, List.setIfInBounds_toArray, List.set_cons_zero, List.set_cons_succ]
      rfl
    refine pure_ (i := 2) (N := some 30) (v := ?_) (a' := ?_) #[true, false, true, false, false, false, false, false, false, false, false, false, false, false, false, false] rfl rfl (by kernel_rfl) (fun _ _ _ h => h) (Or.inl ⟨by rfl, ?_⟩) ?_ ?_
    rotate_left
    · intro w'
      go_simp
      with_reducible rfl
    rotate_left
    · simp only [Act.put, List.setIfInBounds_toArray, List.set_cons_zero, List.set_cons_succ]
      rfl
    refine pure_ (i := 3) (N := some 31) (v := ?_) (a' := ?_) #[true, false, true, true, false, false, false, false, false, false, false, false, false, false, false, false] rfl rfl (by kernel_rfl) (fun _ _ _ h => h) (Or.inl ⟨by rfl, ?_⟩) ?_ ?_
    rotate_left
    · intro w'
      go_simp
      with_reducible rfl
    rotate_left
    · simp only [Act.put, List.setIfInBounds_toArray, List.set_cons_zero, List.set_cons_succ]
      rfl
    refine pure_ (i := 4) (N := some 32) (v := ?_) (a' := ?_) #[true, false, true, true, true, false, false, false, false, false, false, false, false, false, false, false] rfl rfl (by kernel_rfl) (fun _ _ _ h => h) (Or.inl ⟨by rfl, ?_⟩) ?_ ?_
    rotate_left
    · intro w'
      go_simp
      with_reducible rfl
    rotate_left
    · simp only [Act.put, List.setIfInBounds_toArray, List.set_cons_zero, List.set_cons_succ]
      rfl
    refine pure_ (i := 6) (N := some 34) (v := ?_) (a' := ?_) #[true, false, true, true, true, false, true, false, false, false, false, false, false, false, false, false] rfl rfl (by kernel_rfl) (fun _ _ _ h => h) (Or.inl ⟨by rfl, ?_⟩) ?_ ?_
    rotate_left
    · intro w'
      go_simp
      with_reducible rfl
    rotate_left
    · simp only [Act.put, List.setIfInBounds_toArray, List.set_cons_zero, List.set_cons_succ]
      rfl
    refine pure_ (i := 8) (N := some 36) (v := ?_) (a' := ?_) #[true, false, true, true, true, false, true, false, true, false, false, false, false, false, false, false] rfl rfl (by kernel_rfl) (fun _ _ _ h => h) (Or.inl ⟨by rfl, ?_⟩) ?_ ?_
    rotate_left
    · intro w'
      go_simp
      with_reducible rfl
    rotate_left
    · simp only [Act.put, List.setIfInBounds_toArray, List.set_cons_zero, List.set_cons_succ]
      rfl
    refine pure_ (i := 9) (N := some 37) (v := ?_) (a' := ?_) #[true, false, true, true, true, false, true, false, true, true, false, false, false, false, false, false] rfl rfl (by kernel_rfl) (fun _ _ _ h => h) (Or.inl ⟨by rfl, ?_⟩) ?_ ?_
    rotate_left
    · intro w'
      go_simp
      with_reducible rfl
    rotate_left
    · simp only [Act.put, List.setIfInBounds_toArray, List.set_cons_zero, List.set_cons_succ]
      rfl
    refine pure_ (i := 10) (N := some 38) (v := ?_) (a' := ?_) #[true, false, true, true, true, false, true, false, true, true, true, false, false, false, false, false] rfl rfl (by kernel_rfl) (fun _ _ _ h => h) (Or.inl ⟨by rfl, ?_⟩) ?_ ?_
    rotate_left
    · intro w'
      go_simp
      with_reducible rfl
    rotate_left
    · simp only [Act.put, List.setIfInBounds_toArray, List.set_cons_zero, List.set_cons_succ]
      rfl
    refine take_ (i := 1) (N := some 29) (v := ?_) (a' := ?_) #[true, true, true, true, true, false, true, false, true, true, true, false, false, false, false, false] rfl rfl (by kernel_rfl) (fun _ _ _ h => h) (Or.inl ⟨by rfl, ?_⟩) hHeld ?_ ?_
    rotate_left
    · rintro w' ⟨s0, s1⟩
      go_simp
      with_reducible rfl
    rotate_left
    · simp only [Act.put, List.setIfInBounds_toArray, List.set_cons_zero, List.set_cons_succ]
      rfl
    refine take_ (i := 7) (N := some 35) (v := ?_) (a' := ?_) #[true, true, true, true, true, false, true, true, true, true, true, false, false, false, false, false] rfl rfl (by kernel_rfl) (fun _ _ _ h => h) (Or.inl ⟨by rfl, ?_⟩) hHeld ?_ ?_
    rotate_left
    · rintro w' ⟨s0, s1⟩
      go_simp
      with_reducible rfl
    rotate_left
    · simp only [Act.put, List.setIfInBounds_toArray, List.set_cons_zero, List.set_cons_succ]
      rfl
    refine one_ (i := 5) (N := some 33) #[true, true, true, true, true, true, true, true, true, true, true, false, false, false, false, false] rfl rfl (by kernel_rfl) (by decide) (fun K hK => ?_)
    refine goes_ Try.func87 (by kernel_rfl) rfl #[Value.slice x2 y2 z2, .int .i64 m, .int .i64 ((m : Int) + 1)] (by rfl) rfl rfl (by simp only [List.map_toArray, List.map_cons, List.map_nil]; rfl) ?_
    with_reducible refine ((delete_own _ _ B L m M1.out.own.ol HLm.out.1 HLm.out.2)).mono ?_
    rintro e wd2 ⟨vd2, rfl, hob, hown, hgrow⟩
    obtain ⟨p2, r2, s2, rfl⟩ := own_shape hown
    have M2 := Lib.hid (M1.out.turnL (by rw [cut_len HLm.out.1]; exact hown) hob hgrow)
    clear hob hown hgrow
    refine ⟨_, rfl, ?_⟩
    refine hK.out _ _ ⟨M2.out.blk.cell 1, M2.out.blk.cell 2⟩ (fun hHeld => ?_)
    clear hK K
    refine norm_ (a' := ?_) ?_ ?_
    rotate_left
    · show Act.put _ (some 33) _ = _
      simp only [Act.put, List.setIfInBounds_toArray, List.set_cons_zero, List.set_cons_succ]
      rfl
    refine pure_ (i := 12) (N := some 40) (v := ?_) (a' := ?_) #[true, true, true, true, true, true, true, true, true, true, true, false, true, false, false, false] rfl rfl (by kernel_rfl) (fun _ _ _ h => h) (Or.inl ⟨by rfl, ?_⟩) ?_ ?_
    rotate_left
    · intro w'
      go_simp
      with_reducible rfl
    rotate_left
    · simp only [Act.put, List.setIfInBounds_toArray, List.set_cons_zero, List.set_cons_succ]
      rfl
    refine one_ (i := 11) (N := some 39) #[true, true, true, true, true, true, true, true, true, true, true, true, true, false, false, false] rfl rfl (by kernel_rfl) (by decide) (fun K hK => ?_)
    refine goes_ Try.func87 (by kernel_rfl) rfl #[Value.slice x3 y3 z3, .int .i64 m, .int .i64 ((m : Int) + 1)] (by rfl) rfl rfl (by simp only [List.map_toArray, List.map_cons, List.map_nil]; rfl) ?_
    with_reducible refine ((delete_own _ _ B D m M2.out.own.od HDm.out.1 HDm.out.2)).mono ?_
    rintro e wd3 ⟨vd3, rfl, hob, hown, hgrow⟩
    obtain ⟨p3, r3, s3, rfl⟩ := own_shape hown
    have M3 := Lib.hid (M2.out.turnD (by rw [cut_len HDm.out.1]; exact hown) hob hgrow)
    clear hob hown hgrow
    obtain ⟨⟨o0, o1, o2⟩, e0, e1, e2⟩ := cells3 M3.out.blk
    refine ⟨_, rfl, ?_⟩
    refine hK.out _ _ ⟨M3.out.blk.cell 1, M3.out.blk.cell 2⟩ (fun hHeld => ?_)
    clear hK K
    refine norm_ (a' := ?_) ?_ ?_
    rotate_left
    · show Act.put _ (some 39) _ = _
      simp only [Act.put, List.setIfInBounds_toArray, List.set_cons_zero, List.set_cons_succ]
      rfl
    refine last_ (i := 13) (N := none) #[true, true, true, true, true, true, true, true, true, true, true, true, true, true, false, false] rfl rfl (by kernel_rfl) (by decide) (fun K hK => ?_)
    refine skip_ (w1 := ?_) (by rfl) rfl ?_ ?_
    rotate_left
    · go_simp
      rfl
    refine hK.out _ _ ?_
    clear hK K
    refine pure_ (i := 14) (N := some 41) (v := ?_) (a' := ?_) #[true, true, true, true, true, true, true, true, true, true, true, true, true, true, true, false] rfl rfl (by kernel_rfl) (fun _ _ _ h => h) (Or.inl ⟨by rfl, ?_⟩) ?_ ?_
    rotate_left
    · intro w'
      go_simp
      with_reducible rfl
    rotate_left
    · simp only [Act.put, List.setIfInBounds_toArray, List.set_cons_zero, List.set_cons_succ]
      rfl
    refine last_ (i := 15) (N := none) #[true, true, true, true, true, true, true, true, true, true, true, true, true, true, true, true] rfl rfl (by kernel_rfl) (by decide) (fun K hK => ?_)
    refine skip_ (w1 := ?_) (by rfl) rfl ?_ ?_
    rotate_left
    · go_simp
      rfl
    refine hK.out _ _ ?_
    clear hK K
    refine done_ (by kernel_rfl) ?_
    have HST := Lib.hid M3.out.done
    clear o0 o1 o2 e0 e1 e2 M1 M2 M3 hHeld
    generalize (wd3.setCell ⟨ob, 1, none⟩ (.slice p2 r2 s2)).setCell ⟨ob, 2, none⟩ (.slice p3 r3 s3) = w6 at *
    obtain ⟨⟨o0, o1, o2⟩, _⟩ := cells3 HST.out.1.blk
    have K2 : Hid (Blk w6 (w.heap.size + 1) #[Value.slice none 0 0, Value.slice none 0 0, Value.slice none 0 0] 36) := Lib.hid (HBB.out.2.2.keep HST.out.2.1 (by have := HBB.out.1; omega))
    have HB : Hid (Below w.heap.size w w6) := Lib.hid (HBB.out.2.1.trans (HST.out.2.1.mono (by have := HBB.out.1; omega)))
    have HO := Lib.hid (HST.out.1.own3.base (by have := HBB.out.1; omega : w.heap.size ≤ B))
    go_wp2_with fail
    refine (impl_checkedProfile _ _ _ _ _ _ _ HO.out.PS).mono ?_
    rintro e w7 ⟨rfl, hb⟩
    clear o0 o1 o2 HST
    replace K2 := Lib.hid (K2.out.later hb)
    replace HB := Lib.hid (HB.out.trans (hb.mono HB.out.size))
    replace HO := Lib.hid (HO.out.later hb)
    clear hb
    obtain ⟨⟨r0, r1, r2⟩, f0, f1, f2⟩ := cells3 K2.out
    obtain ⟨ok, hok⟩ : ∃ ok, validB (A.take m ++ A.drop (m + 1)) (L.take m ++ L.drop (m + 1)) (D.take m ++ D.drop (m + 1)) = ok := ⟨_, rfl⟩
    obtain ⟨va, vl, vd, hgv, hgo⟩ := give_T (w := w) hok HO.out
    rw [hgv]
    obtain ⟨x4, y4, z4, rfl⟩ := own_shape hgo.oa
    obtain ⟨x5, y5, z5, rfl⟩ := own_shape hgo.ol
    obtain ⟨x6, y6, z6, rfl⟩ := own_shape hgo.od
    have HG := Lib.hid hgo; have HOK := Lib.hid hok
    clear hgv hgo hok HO
    have KF := Lib.hid (set3_blk K2.out (Value.slice x4 y4 z4) (Value.slice x5 y5 z5) (Value.slice x6 y6 z6))
    have HBW := Lib.hid (set3_below (b := w.heap.size + 1) HB.out (by omega) (Value.slice x4 y4 z4) (Value.slice x5 y5 z5) (Value.slice x6 y6 z6))
    have HOW := Lib.hid (set3_own HG.out K2.out (Value.slice x4 y4 z4) (Value.slice x5 y5 z5) (Value.slice x6 y6 z6))
    go_wp2
    obtain ⟨⟨q0, q1, q2⟩, _⟩ := cells3 KF.out
    unfold set3 at q0 q1 q2
    refine bodyPost_ret (v := .tuple #[.agg #[Value.slice x4 y4 z4, Value.slice x5 y5 z5, Value.slice x6 y6 z6], .bool ok]) (by simp [results, Try.results56, go_sem, q0, q1, q2]) rfl ?_
    exact HSe.out _ _ _ HOK.out ⟨_, _, _, rfl, HOW.out, HBW.out⟩

end Go.Proofs.Ytdkgdinbglkjcaa
