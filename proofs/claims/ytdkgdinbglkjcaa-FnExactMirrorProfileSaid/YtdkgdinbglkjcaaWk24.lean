/- Knots that are picked out: the program (printed by gcut.py; the region's walk by the kit's regions.py). -/
import Derived.Test.YtdkgdinbglkjcaaWk22
import Derived.Test.YtdkgdinbglkjcaaWLast
import Derived.Deep.AppendLies
namespace Go.Proofs.Ytdkgdinbglkjcaa
open Fl Go.RowKit YtdkgdinbglkjcaaW.PrintLast

/-- Between the loads and the stores of a region: the lists have grown, the box still holds the old ones. -/
structure Mid (w : World) (ob B : Nat) (w0 : World) (x y z a l d : Value) (A L D : List Nat) : Prop where
  own : Own3 w B a l d A L D
  blk : Blk w ob #[x, y, z] 36
  bB : B ≤ ob
  bel : Below B w0 w
  sz : B ≤ w.heap.size
theorem Mid.alloc {w : World} {ob B : Nat} {w0 : World} {x y z a l d : Value} {A L D : List Nat} (h : Mid w ob B w0 x y z a l d A L D) (o : Obj) : Mid (w.alloc o) ob B w0 x y z a l d A L D :=
  have hb : Below w.heap.size w (w.alloc o) := (Below.refl _ _).alloc (Nat.le_refl _) _
  ⟨h.own.later hb, h.blk.later hb, h.bB, h.bel.trans (hb.mono h.sz), Nat.le_trans h.sz hb.size⟩
theorem Mid.later {w w' : World} {ob B : Nat} {w0 : World} {x y z a l d : Value} {A L D : List Nat} (h : Mid w ob B w0 x y z a l d A L D) (hb : Below w.heap.size w w') : Mid w' ob B w0 x y z a l d A L D :=
  ⟨h.own.later hb, h.blk.later hb, h.bB, h.bel.trans (hb.mono h.sz), Nat.le_trans h.sz hb.size⟩
theorem Mid.newCell {w : World} {ob B : Nat} {w0 : World} {x y z a l d : Value} {A L D : List Nat} (_ : Mid w ob B w0 x y z a l d A L D) (u b : Nat) (hb : w.heap.size = b) : (w.alloc (Obj.cells #[Value.float .f32 u] 23)).cell? ⟨b, 0, none⟩ = some (Value.float .f32 u) := by
  subst hb
  have := cell_one_new w (Value.float .f32 u) 23 0 (Value.float .f32 u) rfl
  exact this
theorem news_one {w : World} {b z : Nat} (h : w.cell? ⟨b, 0, none⟩ = some (Value.float .f32 z)) {j : Nat} {u : Value} (hj : [Value.float .f32 z][j]? = some u) : w.cell? ((⟨b, 0, none⟩ : Addr).add j) = some u := by
  match j, hj with
  | 0, hj => simp at hj; subst hj; simpa [Addr.add] using h
theorem Mid.newNe {w : World} {B b n : Nat} {v : Value} {xs : List Value} (h : w.ownsRow B 23 1 v n xs) (hb : w.heap.size ≤ b) : v.ownBlock ≠ some b := fun hc => by have := (h.lt b hc).2; omega
theorem cell_kept {w w' : World} {b : Nat} {u : Value} {row : Option Nat} (h : w.cell? ⟨b, 0, none⟩ = some u) (hg : w.grownBy w' row) (hne : row ≠ some b) : w'.cell? ⟨b, 0, none⟩ = some u := by
  have hlt : b < w.heap.size := by
    rcases Nat.lt_or_ge b w.heap.size with q | q
    · exact q
    · unfold World.cell? at h; rw [Array.getElem?_eq_none q] at h; cases h
  unfold World.cell? at h ⊢
  rw [hg.block b hlt (fun e => hne e.symm)]
  exact h
theorem at_of {v : Value} {g n cap s : Nat} (h : v.ownBlock = some g ∨ g = s) : (Value.slice (some ⟨g, 0, none⟩) n cap).ownBlock = v.ownBlock ∨ (Value.slice (some ⟨g, 0, none⟩) n cap).ownBlock = some s := by
  rcases h with h | h
  · left; rw [h]; rfl
  · right; rw [h]; rfl
theorem Mid.appL {w w' : World} {ob B : Nat} {w0 : World} {x y z a l d : Value} {A L D : List Nat} {u g cap : Nat} (h : Mid w ob B w0 x y z a l d A L D)
    (ho : w'.ownsRow B 23 1 (.slice (some ⟨g, 0, none⟩) (L.length + 1) cap) (L.length + 1) (L.map (Value.float .f32) ++ [.float .f32 u])) (hg : w.grownBy w' l.ownBlock) (hat : l.ownBlock = some g ∨ g = w.heap.size) :
    Mid w' ob B w0 x y z a (.slice (some ⟨g, 0, none⟩) (L.length + 1) cap) d A (L ++ [u]) D := by
  refine ⟨⟨h.own.oa.kept hg h.own.al, ?_, h.own.od.kept hg h.own.ld.symm, (ap_new h.own.al.symm (at_of hat) h.own.oa).symm, h.own.ad, ap_new h.own.ld (at_of hat) h.own.od⟩, h.blk.kept hg (own_ne_box h.own.ol h.blk), h.bB, h.bel.grown hg h.sz (fun k hk => (h.own.ol.lt k hk).1), Nat.le_trans h.sz hg.size⟩
  rw [List.length_append, List.map_append]
  exact ho
theorem Mid.appD {w w' : World} {ob B : Nat} {w0 : World} {x y z a l d : Value} {A L D : List Nat} {u g cap : Nat} (h : Mid w ob B w0 x y z a l d A L D)
    (ho : w'.ownsRow B 23 1 (.slice (some ⟨g, 0, none⟩) (D.length + 1) cap) (D.length + 1) (D.map (Value.float .f32) ++ [.float .f32 u])) (hg : w.grownBy w' d.ownBlock) (hat : d.ownBlock = some g ∨ g = w.heap.size) :
    Mid w' ob B w0 x y z a l (.slice (some ⟨g, 0, none⟩) (D.length + 1) cap) A L (D ++ [u]) := by
  refine ⟨⟨h.own.oa.kept hg h.own.ad, h.own.ol.kept hg h.own.ld, ?_, h.own.al, (ap_new h.own.ad.symm (at_of hat) h.own.oa).symm, (ap_new h.own.ld.symm (at_of hat) h.own.ol).symm⟩, h.blk.kept hg (own_ne_box h.own.od h.blk), h.bB, h.bel.grown hg h.sz (fun k hk => (h.own.od.lt k hk).1), Nat.le_trans h.sz hg.size⟩
  rw [List.length_append, List.map_append]
  exact ho
theorem Mid.done {w : World} {ob B : Nat} {w0 : World} {x y z l d : Value} {A L D : List Nat} (h : Mid w ob B w0 x y z x l d A L D) :
    St ((w.setCell ⟨ob, 1, none⟩ l).setCell ⟨ob, 2, none⟩ d) ob B x l d A L D ∧ Below B w0 ((w.setCell ⟨ob, 1, none⟩ l).setCell ⟨ob, 2, none⟩ d) ∧ B ≤ ((w.setCell ⟨ob, 1, none⟩ l).setCell ⟨ob, 2, none⟩ d).heap.size := by
  have k1 := h.blk.set 1 l
  have k2 := k1.set 2 d
  refine ⟨((h.own.setBox h.blk 1 l).setBox k1 2 d).St h.bB k2, (h.bel.setCell (p := ⟨ob, 1, none⟩) h.bB l).setCell (p := ⟨ob, 2, none⟩) h.bB d, ?_⟩
  have := h.sz
  simp [World.setCell] at *
  exact this
theorem St.mid {w : World} {ob B : Nat} {w0 : World} {a l d : Value} {A L D : List Nat} (h : St w ob B a l d A L D) (hb : Below B w0 w) (hs : B ≤ w.heap.size) : Mid w ob B w0 a l d a l d A L D := ⟨h.own3, h.blk, h.bB, hb, hs⟩
/-- The three boxes of a function that makes a struct: the parameter's, the result's, the local one's. -/
theorem box3 (w : World) (cs cs' cs'' : Array Value) (T : TypeId) : ∃ wb, wb = (((w.alloc (Obj.cells cs T)).alloc (Obj.cells cs' T)).alloc (Obj.cells cs'' T)) ∧ Blk wb w.heap.size cs T ∧ Blk wb (w.heap.size + 1) cs' T ∧ Blk wb (w.heap.size + 2) cs'' T ∧ Below w.heap.size w wb ∧ wb.heap.size = w.heap.size + 3 :=
  ⟨_, rfl, ((Blk.new _ _ _).alloc _).alloc _, by have := (Blk.new (w.alloc (Obj.cells cs T)) cs' T).alloc (Obj.cells cs'' T); simpa using this, by have := Blk.new ((w.alloc (Obj.cells cs T)).alloc (Obj.cells cs' T)) cs'' T; simpa using this,
    (((Below.refl _ _).alloc (Nat.le_refl _) _).alloc (by simp) _).alloc (by simp; omega) _, by simp⟩

set_option maxRecDepth 8000 in
set_option maxHeartbeats 1600000 in
theorem impl_cut (w : World) (v : Value) (A L D : List Nat) (x y : Nat) (h : PS w v A L D) (hs : validB A L D = true) : Calls Try.prog 76 #[v, .float .f32 x, .float .f32 y] w
    (fun e w' => ∃ a l d, e = .returned (.agg #[a, l, d]) ∧ Own3 w' w.heap.size a l d (sel (fun k => inB (A.getD k 0) x y) A A.length) (sel (fun k => inB (A.getD k 0) x y) L A.length) (sel (fun k => inB (A.getD k 0) x y) D A.length) ∧ Below w.heap.size w w') := by
  obtain ⟨p, hp⟩ : ∃ p : Nat → Bool, p = fun k => inB (A.getD k 0) x y := ⟨_, rfl⟩
  rw [← hp]
  have HP : Hid (∀ k, inB (A.getD k 0) x y = p k) := Lib.hid fun k => by rw [hp]
  clear hp
  obtain ⟨a1, a2, a3, l1, l2, l3, d1, d2, d3, rfl, fa, fl, fd⟩ := h.shape
  obtain ⟨rfl, ma, CA⟩ := fa.at
  obtain ⟨rfl, ml, CL⟩ := fl.at
  obtain ⟨rfl, md, CD⟩ := fd.at
  obtain ⟨i0, hi, hz0, hz1, hz2⟩ := info_parts infoF
  obtain ⟨wb, hwb, k1, k2, k3, hb, hz⟩ := box3 w #[Value.slice a1 A.length a3, Value.slice l1 L.length l3, Value.slice d1 D.length d3] #[Value.slice none 0 0, Value.slice none 0 0, Value.slice none 0 0] #[Value.slice none 0 0, Value.slice none 0 0, Value.slice none 0 0] 36
  have K1 := Lib.hid k1; have K2 := Lib.hid k2; have HB := Lib.hid hb; have HZ := Lib.hid hz
  have S0 : Hid (St wb (w.heap.size + 2) (w.heap.size + 2) (Value.slice none 0 0) (Value.slice none 0 0) (Value.slice none 0 0) (sel p A 0) (sel p L 0) (sel p D 0)) := Lib.hid ((Own3.nil _ _).St (Nat.le_refl _) k3)
  clear fa fl fd h k1 k2 k3 hb hz ma ml md
  obtain ⟨s1, s2, s3, s4⟩ := sizes_spec (valid_sizes hs)
  have H1 := Lib.hid s1; have H2 := Lib.hid s2; have H3 := Lib.hid s3; have H4 := Lib.hid s4
  clear hs s1 s2 s3 s4
  obtain ⟨⟨k0, k1, k2⟩, _⟩ := cells3 K1.out
  go_enter Try.func76, Try.ntmps76
  go_wp2_with fail
  rw [← hwb]
  clear hwb k0 k1 k2
  go_loopw [14] (fun i wr => ∃ (k : Nat) (a l d : Value), k ≤ A.length ∧ i = .int .i64 k ∧ St wr (w.heap.size + 2) (w.heap.size + 2) a l d (sel p A k) (sel p L k) (sel p D k) ∧ Below (w.heap.size + 2) wb wr ∧ w.heap.size + 2 ≤ wr.heap.size) (fun i _ => A.length - (intOf i).toNat)
  case atStart => exact ⟨0, _, _, _, Nat.zero_le _, rfl, S0.out, Below.refl _ _, by have := HZ.out; omega⟩
  case round =>
    obtain ⟨k, va, vl, vd, hk, rfl, hst, hbr, hsz⟩ := hrel
    have HST := Lib.hid hst; have HBR := Lib.hid hbr; have HSZ := Lib.hid hsz
    have HBT : Hid (Below w.heap.size w wr) := Lib.hid (HB.out.trans (hbr.mono (by omega)))
    clear hst hbr hsz S0
    by_cases hlt : k < A.length
    · obtain ⟨ba, oa, rfl, hba, hA⟩ := CA.out k hlt
      obtain ⟨bl, ol, rfl, hbl, hL⟩ := CL.out k (by have := H3.out; omega)
      obtain ⟨bd, od, rfl, hbd, hD⟩ := CD.out k (by have := H4.out; omega)
      have hA' : wr.cell? ⟨ba, oa + k, none⟩ = some (.float .f32 (A.getD k 0)) := (HBT.out.cell (p := ⟨ba, oa + k, none⟩) hba).trans hA
      have GL : Hid (wb.cell? ⟨bl, ol + k, none⟩ = some (.float .f32 (L.getD k 0)) ∧ bl < w.heap.size) := Lib.hid ⟨(HB.out.cell (p := ⟨bl, ol + k, none⟩) hbl).trans hL, hbl⟩
      have GD : Hid (wb.cell? ⟨bd, od + k, none⟩ = some (.float .f32 (D.getD k 0)) ∧ bd < w.heap.size) := Lib.hid ⟨(HB.out.cell (p := ⟨bd, od + k, none⟩) hbd).trans hD, hbd⟩
      clear hA hL hD hba hbl hbd
      have q4 : (A.length : Int) ≤ 24 := by have := H2.out; omega
      have q0 : (k : Int) < A.length := by omega
      have q1 : (k : Int) < L.length := by have := H3.out; omega
      have q2 : (k : Int) < D.length := by have := H4.out; omega
      have q3 : (0 : Int) ≤ (k : Int) := by omega
      have PK := Lib.hid (HP.out k)
      have SY := Lib.hid (fun (h : p k = true) => And.intro (sel_yes (X := A) h) (And.intro (sel_yes (X := L) h) (sel_yes (X := D) h)))
      have SN := Lib.hid (fun (h : p k = false) => And.intro (sel_no (X := A) h) (And.intro (sel_no (X := L) h) (sel_no (X := D) h)))
      have n1 := sel_len p A k; have n2 := sel_len p L k; have n3 := sel_len p D k
      have N1 : Hid ((sel p A k).length ≤ 1000 ∧ (sel p L k).length ≤ 1000 ∧ (sel p D k).length ≤ 1000) := Lib.hid (by have := H2.out; omega)
      clear n1 n2 n3
      generalize A.getD k 0 = za at *
      generalize L.getD k 0 = zl at *
      generalize D.getD k 0 = zd at *
      go_wp2_with fail
      refine (impl_isFromTo _ _ _ _).mono ?_
      rintro e w4 ⟨rfl, n4, hw4⟩
      rw [PK.out]
      have hd4 : Below wr.heap.size wr w4 := by rw [hw4]; exact below_dn (Below.refl _ _) _
      replace HST := Lib.hid (HST.out.later hd4)
      replace HBR := Lib.hid (HBR.out.trans (hd4.mono HSZ.out))
      replace HSZ : Hid (w.heap.size + 2 ≤ w4.heap.size) := Lib.hid (Nat.le_trans HSZ.out hd4.size)
      clear hd4 hw4 hA' HBT
      cases hpk : p k
      · have HN := Lib.hid (SN.out hpk)
        clear SY SN PK hpk
        go_wp2
        go_roundw
        case rel => exact ⟨k + 1, _, _, _, by omega, by go_num, by rw [HN.out.1, HN.out.2.1, HN.out.2.2]; exact HST.out, HBR.out, HSZ.out⟩
        case measure => simp [intOf]; omega
      · have HY := Lib.hid (SY.out hpk)
        clear SY SN PK hpk
        obtain ⟨p1, q1', r1, rfl⟩ := own_shape HST.out.ol
        obtain ⟨p2, q2', r2, rfl⟩ := own_shape HST.out.od
        have m0 := N1.out.1
        have c0 : w4.cell? ⟨w.heap.size + 2, 0, none⟩ = some va := HST.out.blk.cell 0
        go_wp2_with (at_builtin; refine wpList_append_own_at _ rfl _ _ 22 rfl (w.heap.size + 2) 23 i0 (.float .f32 0) 1 4 Try.underlying22 hi hz0 hz1 hz2 rfl (by decide) _ _ _ rfl (HST.out.oa.alloc _) _ 1 1 [.float .f32 za] rfl rfl (by have := cell_one_new w4 (.float .f32 za) 23; simpa using this) (fun u hu => by simp at hu; subst hu; rfl) (by unfold maxLen; omega) (by omega) (by have := HSZ.out; simp; omega) ?_)
        intro v0 w5 ho hg _ hat
        obtain ⟨p0, q0', r0, rfl⟩ := own_shape ho
        have hb1 : Below w4.heap.size w4 (w4.alloc (.cells #[.float .f32 za] 23)) := (Below.refl _ _).alloc (Nat.le_refl _) _
        have KB : Blk w5 (w.heap.size + 2) #[va, .slice p1 q1' r1, .slice p2 q2' r2] 36 := (HST.out.later hb1).blk.kept hg (own_ne_box (HST.out.later hb1).oa (HST.out.later hb1).blk)
        clear c0
        have c0 : w5.cell? ⟨w.heap.size + 2, 0, none⟩ = some va := KB.cell 0
        have f0 : w5.frozen? ⟨w.heap.size + 2, 0, none⟩ = false := KB.free 0
        have S5 := HST.out.putA hb1 ho hg (by simpa using hat)
        have B5 := HST.out.below (i := 0) (v' := (.slice p0 q0' r0)) HBR.out HSZ.out hb1 HST.out.oa hg
        have Z5 : w.heap.size + 2 ≤ (w5.setCell ⟨w.heap.size + 2, 0, none⟩ (.slice p0 q0' r0)).heap.size := by have := HSZ.out; have := hg.size; have := hb1.size; simp [World.setCell] at *; omega
        have hd : Below (w5.setCell ⟨w.heap.size + 2, 0, none⟩ (.slice p0 q0' r0)).heap.size (w5.setCell ⟨w.heap.size + 2, 0, none⟩ (.slice p0 q0' r0)) (w5.setCell ⟨w.heap.size + 2, 0, none⟩ (.slice p0 q0' r0)).drew := below_dn (Below.refl _ _) 1
        have M0 := Lib.hid ((S5.mid B5 Z5).later hd)
        clear S5 B5 Z5 hd ho hg hat hb1 KB HST HBR HSZ
        go_wp2_with fail
        clear c0 f0
        generalize w5.setCell ⟨w.heap.size + 2, 0, none⟩ (.slice p0 q0' r0) = w6 at *
        have SF : Hid (∀ (w' : World) (a l d : Value) (A' L' D' : List Nat), Mid w' (w.heap.size + 2) (w.heap.size + 2) wb (Value.slice p0 q0' r0) (Value.slice p1 q1' r1) (Value.slice p2 q2' r2) a l d A' L' D' → w'.cell? ⟨w.heap.size + 2, 1, none⟩ = some (Value.slice p1 q1' r1) ∧ w'.cell? ⟨w.heap.size + 2, 2, none⟩ = some (Value.slice p2 q2' r2) ∧ w'.cell? ⟨w.heap.size, 1, none⟩ = some (Value.slice (some ⟨bl, ol, none⟩) L.length l3) ∧ w'.cell? ⟨w.heap.size, 2, none⟩ = some (Value.slice (some ⟨bd, od, none⟩) D.length d3) ∧ w'.cell? ⟨bl, ol + k, none⟩ = some (Value.float FloatKind.f32 zl) ∧ w'.cell? ⟨bd, od + k, none⟩ = some (Value.float FloatKind.f32 zd)) := Lib.hid fun w' a l d A' L' D' hm => ⟨hm.blk.cell 1, hm.blk.cell 2, (hm.bel.cell (p := ⟨w.heap.size, 1, none⟩) (by simp)).trans (K1.out.cell 1), (hm.bel.cell (p := ⟨w.heap.size, 2, none⟩) (by simp)).trans (K1.out.cell 2), (hm.bel.cell (p := ⟨bl, ol + k, none⟩) (by have := GL.out.2; simp; omega)).trans GL.out.1, (hm.bel.cell (p := ⟨bd, od + k, none⟩) (by have := GD.out.2; simp; omega)).trans GD.out.1⟩
        have hS0 := SF.out _ _ _ _ _ _ _ M0.out
        have m1 := N1.out.2.1; have m2 := N1.out.2.2
        refine start_ (n := 22) (S := fun w' => w'.cell? ⟨w.heap.size + 2, 1, none⟩ = some (Value.slice p1 q1' r1) ∧ w'.cell? ⟨w.heap.size + 2, 2, none⟩ = some (Value.slice p2 q2' r2) ∧ w'.cell? ⟨w.heap.size, 1, none⟩ = some (Value.slice (some ⟨bl, ol, none⟩) L.length l3) ∧ w'.cell? ⟨w.heap.size, 2, none⟩ = some (Value.slice (some ⟨bd, od, none⟩) D.length d3) ∧ w'.cell? ⟨bl, ol + k, none⟩ = some (Value.float FloatKind.f32 zl) ∧ w'.cell? ⟨bd, od + k, none⟩ = some (Value.float FloatKind.f32 zd)) (ds := [19, 21]) #[false, false, false, false, false, false, false, false, false, false, false, false, false, false, false, false, false, false, false, false, false, false] (by kernel_rfl) rfl rfl ⟨hS0.1, hS0.2.1, hS0.2.2.1, hS0.2.2.2.1, hS0.2.2.2.2.1, hS0.2.2.2.2.2⟩ (fun hHeld => ?_)
        refine pure_ (i := 0) (N := some 29) (v := ?_) (a' := ?_) #[true, false, false, false, false, false, false, false, false, false, false, false, false, false, false, false, false, false, false, false, false, false] rfl rfl (by kernel_rfl) (fun _ _ _ h => h) (Or.inl ⟨by rfl, ?_⟩) ?_ ?_
        rotate_left
        · intro w'
          go_simp
          with_reducible rfl
        rotate_left
        · simp only [Act.put, List.setIfInBounds_toArray, List.set_cons_zero, List.set_cons_succ]
          rfl
        refine pure_ (i := 2) (N := some 31) (v := ?_) (a' := ?_) #[true, false, true, false, false, false, false, false, false, false, false, false, false, false, false, false, false, false, false, false, false, false] rfl rfl (by kernel_rfl) (fun _ _ _ h => h) (Or.inl ⟨by rfl, ?_⟩) ?_ ?_
        rotate_left
        · intro w'
          go_simp
          with_reducible rfl
        rotate_left
        · simp only [Act.put, List.setIfInBounds_toArray, List.set_cons_zero, List.set_cons_succ]
          rfl
        refine pure_ (i := 4) (N := some 33) (v := ?_) (a' := ?_) #[true, false, true, false, true, false, false, false, false, false, false, false, false, false, false, false, false, false, false, false, false, false] rfl rfl (by kernel_rfl) (fun _ _ _ h => h) (Or.inl ⟨by rfl, ?_⟩) ?_ ?_
        rotate_left
        · intro w'
          go_simp
          with_reducible rfl
        rotate_left
        · simp only [Act.put, List.setIfInBounds_toArray, List.set_cons_zero, List.set_cons_succ]
          rfl
        refine pure_ (i := 9) (N := some 38) (v := ?_) (a' := ?_) #[true, false, true, false, true, false, false, false, false, true, false, false, false, false, false, false, false, false, false, false, false, false] rfl rfl (by kernel_rfl) (fun _ _ _ h => h) (Or.inl ⟨by rfl, ?_⟩) ?_ ?_
        rotate_left
        · intro w'
          go_simp
          with_reducible rfl
        rotate_left
        · simp only [Act.put, List.setIfInBounds_toArray, List.set_cons_zero, List.set_cons_succ]
          rfl
        refine pure_ (i := 11) (N := some 40) (v := ?_) (a' := ?_) #[true, false, true, false, true, false, false, false, false, true, false, true, false, false, false, false, false, false, false, false, false, false] rfl rfl (by kernel_rfl) (fun _ _ _ h => h) (Or.inl ⟨by rfl, ?_⟩) ?_ ?_
        rotate_left
        · intro w'
          go_simp
          with_reducible rfl
        rotate_left
        · simp only [Act.put, List.setIfInBounds_toArray, List.set_cons_zero, List.set_cons_succ]
          rfl
        refine pure_ (i := 13) (N := some 42) (v := ?_) (a' := ?_) #[true, false, true, false, true, false, false, false, false, true, false, true, false, true, false, false, false, false, false, false, false, false] rfl rfl (by kernel_rfl) (fun _ _ _ h => h) (Or.inl ⟨by rfl, ?_⟩) ?_ ?_
        rotate_left
        · intro w'
          go_simp
          with_reducible rfl
        rotate_left
        · simp only [Act.put, List.setIfInBounds_toArray, List.set_cons_zero, List.set_cons_succ]
          rfl
        refine take_ (i := 1) (N := some 30) (v := ?_) (a' := ?_) #[true, true, true, false, true, false, false, false, false, true, false, true, false, true, false, false, false, false, false, false, false, false] rfl rfl (by kernel_rfl) (fun _ _ _ h => h) (Or.inl ⟨by rfl, ?_⟩) hHeld ?_ ?_
        rotate_left
        · rintro w' ⟨s0, s1, s2, s3, s4, s5⟩
          go_simp
          with_reducible rfl
        rotate_left
        · simp only [Act.put, List.setIfInBounds_toArray, List.set_cons_zero, List.set_cons_succ]
          rfl
        refine take_ (i := 3) (N := some 32) (v := ?_) (a' := ?_) #[true, true, true, true, true, false, false, false, false, true, false, true, false, true, false, false, false, false, false, false, false, false] rfl rfl (by kernel_rfl) (fun _ _ _ h => h) (Or.inl ⟨by rfl, ?_⟩) hHeld ?_ ?_
        rotate_left
        · rintro w' ⟨s0, s1, s2, s3, s4, s5⟩
          go_simp
          with_reducible rfl
        rotate_left
        · simp only [Act.put, List.setIfInBounds_toArray, List.set_cons_zero, List.set_cons_succ]
          rfl
        refine pure_ (i := 5) (N := some 34) (v := ?_) (a' := ?_) #[true, true, true, true, true, true, false, false, false, true, false, true, false, true, false, false, false, false, false, false, false, false] rfl rfl (by kernel_rfl) (fun _ _ _ h => h) (Or.inl ⟨by rfl, ?_⟩) ?_ ?_
        rotate_left
        · intro w'
          go_simp
          with_reducible rfl
        rotate_left
        · simp only [Act.put, List.setIfInBounds_toArray, List.set_cons_zero, List.set_cons_succ]
          rfl
        refine take_ (i := 6) (N := some 35) (v := ?_) (a' := ?_) #[true, true, true, true, true, true, true, false, false, true, false, true, false, true, false, false, false, false, false, false, false, false] rfl rfl (by kernel_rfl) (fun _ _ _ h => h) (Or.inl ⟨by rfl, ?_⟩) hHeld ?_ ?_
        rotate_left
        · rintro w' ⟨s0, s1, s2, s3, s4, s5⟩
          go_simp
          with_reducible rfl
        rotate_left
        · simp only [Act.put, List.setIfInBounds_toArray, List.set_cons_zero, List.set_cons_succ]
          rfl
        refine take_ (i := 10) (N := some 39) (v := ?_) (a' := ?_) #[true, true, true, true, true, true, true, false, false, true, true, true, false, true, false, false, false, false, false, false, false, false] rfl rfl (by kernel_rfl) (fun _ _ _ h => h) (Or.inl ⟨by rfl, ?_⟩) hHeld ?_ ?_
        rotate_left
        · rintro w' ⟨s0, s1, s2, s3, s4, s5⟩
          go_simp
          with_reducible rfl
        rotate_left
        · simp only [Act.put, List.setIfInBounds_toArray, List.set_cons_zero, List.set_cons_succ]
          rfl
        refine take_ (i := 12) (N := some 41) (v := ?_) (a' := ?_) #[true, true, true, true, true, true, true, false, false, true, true, true, true, true, false, false, false, false, false, false, false, false] rfl rfl (by kernel_rfl) (fun _ _ _ h => h) (Or.inl ⟨by rfl, ?_⟩) hHeld ?_ ?_
        rotate_left
        · rintro w' ⟨s0, s1, s2, s3, s4, s5⟩
          go_simp
          with_reducible rfl
        rotate_left
        · simp only [Act.put, List.setIfInBounds_toArray, List.set_cons_zero, List.set_cons_succ]
          rfl
        refine pure_ (i := 14) (N := some 43) (v := ?_) (a' := ?_) #[true, true, true, true, true, true, true, false, false, true, true, true, true, true, true, false, false, false, false, false, false, false] rfl rfl (by kernel_rfl) (fun _ _ _ h => h) (Or.inl ⟨by rfl, ?_⟩) ?_ ?_
        rotate_left
        · intro w'
          go_simp
          with_reducible rfl
        rotate_left
        · simp only [Act.put, List.setIfInBounds_toArray, List.set_cons_zero, List.set_cons_succ]
          rfl
        refine take_ (i := 15) (N := some 44) (v := ?_) (a' := ?_) #[true, true, true, true, true, true, true, false, false, true, true, true, true, true, true, true, false, false, false, false, false, false] rfl rfl (by kernel_rfl) (fun _ _ _ h => h) (Or.inl ⟨by rfl, ?_⟩) hHeld ?_ ?_
        rotate_left
        · rintro w' ⟨s0, s1, s2, s3, s4, s5⟩
          go_simp
          with_reducible rfl
        rotate_left
        · simp only [Act.put, List.setIfInBounds_toArray, List.set_cons_zero, List.set_cons_succ]
          rfl
        refine join_ (σ := Nat × Nat × Nat × Nat) 4 #[true, true, true, true, true, true, true, true, true, true, true, true, true, true, true, true, true, false, true, false, false, false] (fun s => [(36, .slice (some ⟨s.1, 0, none⟩) 1 1), (37, (.slice (some ⟨s.2.1, 0, none⟩) ((sel p L k).length + 1) s.2.2.1)), (45, .slice (some ⟨s.2.2.2, 0, none⟩) 1 1), (47, .pointer (some ⟨(w.heap.size + 2), 1, none⟩))]) (fun s w' => Mid w' (w.heap.size + 2) (w.heap.size + 2) wb (Value.slice p0 q0' r0) (Value.slice p1 q1' r1) (Value.slice p2 q2' r2) (Value.slice p0 q0' r0) (.slice (some ⟨s.2.1, 0, none⟩) ((sel p L k).length + 1) s.2.2.1) (Value.slice p2 q2' r2) (sel p A k ++ [za]) (sel p L k ++ [zl]) (sel p D k) ∧ w'.cell? ⟨s.2.2.2, 0, none⟩ = some (.float .f32 zd)) ?_ ?_
        rotate_left
        · intro hCont
          refine two_ (i := 7) (j := 16) (Ni := some 36) (Nj := some 45) #[true, true, true, true, true, true, true, true, false, true, true, true, true, true, true, true, false, false, false, false, false, false] #[true, true, true, true, true, true, true, false, false, true, true, true, true, true, true, true, true, false, false, false, false, false] rfl rfl rfl rfl (by kernel_rfl) (by decide) (by decide) (fun K hK => ?_) (fun K hK => ?_)
          · skip
            refine value_ (w1 := ?_) (v := ?_) (by rfl) rfl ?_ ?_
            rotate_left 2
            · go_simp
              constructor
              · rfl
              · rfl
            have M7_ := Lib.hid (M0.out.alloc (Obj.cells #[Value.float FloatKind.f32 zl] 23))
            have N77_ := Lib.hid (Mid.newCell M0.out zl (w6.heap.size) (by simp))
            refine hK.out _ _ ⟨(SF.out _ _ _ _ _ _ _ M7_.out).1, (SF.out _ _ _ _ _ _ _ M7_.out).2.1, (SF.out _ _ _ _ _ _ _ M7_.out).2.2.1, (SF.out _ _ _ _ _ _ _ M7_.out).2.2.2.1, (SF.out _ _ _ _ _ _ _ M7_.out).2.2.2.2.1, (SF.out _ _ _ _ _ _ _ M7_.out).2.2.2.2.2⟩ (fun hHeld => ?_)
            clear hK K
            refine norm_ (a' := ?_) ?_ ?_
            rotate_left
            · show Act.put _ (some 36) _ = _
              simp only [Act.put, List.setIfInBounds_toArray, List.set_cons_zero, List.set_cons_succ]
              rfl
            refine two_ (i := 8) (j := 16) (Ni := some 37) (Nj := some 45) #[true, true, true, true, true, true, true, true, true, true, true, true, true, true, true, true, false, false, false, false, false, false] #[true, true, true, true, true, true, true, true, false, true, true, true, true, true, true, true, true, false, false, false, false, false] rfl rfl rfl rfl (by kernel_rfl) (by decide) (by decide) (fun K hK => ?_) (fun K hK => ?_)
            · skip
              refine step_append_lies _ (by rfl) _ _ _ (by rfl) (w.heap.size + 2) 23 i0 (.float .f32 0) 1 4 Try.underlying22 hi hz0 hz1 hz2 rfl (by decide) _ (sel p L k).length _ (by rfl) M7_.out.own.ol _ 1 1 [.float .f32 zl] (by rfl) rfl (fun j u hj => news_one N77_.out hj) (fun u hu => by simp at hu; subst hu; rfl) (by omega) (by unfold maxLen; omega) (by omega) M7_.out.sz _ rfl ?_
              intro g cap wx7_8_ hown hgrow hat hlt
              have M7_8_ := Lib.hid (M7_.out.appL hown hgrow hat)
              clear hown hgrow hat hlt
              refine hK.out _ _ ⟨(SF.out _ _ _ _ _ _ _ M7_8_.out).1, (SF.out _ _ _ _ _ _ _ M7_8_.out).2.1, (SF.out _ _ _ _ _ _ _ M7_8_.out).2.2.1, (SF.out _ _ _ _ _ _ _ M7_8_.out).2.2.2.1, (SF.out _ _ _ _ _ _ _ M7_8_.out).2.2.2.2.1, (SF.out _ _ _ _ _ _ _ M7_8_.out).2.2.2.2.2⟩ (fun hHeld => ?_)
              clear hK K
              refine norm_ (a' := ?_) ?_ ?_
              rotate_left
              · show Act.put _ (some 37) _ = _
                simp only [Act.put, List.setIfInBounds_toArray, List.set_cons_zero, List.set_cons_succ]
                rfl
              refine pure_ (i := 18) (N := some 47) (v := ?_) (a' := ?_) #[true, true, true, true, true, true, true, true, true, true, true, true, true, true, true, true, false, false, true, false, false, false] rfl rfl (by kernel_rfl) (fun _ _ _ h => h) (Or.inl ⟨by rfl, ?_⟩) ?_ ?_
              rotate_left
              · intro w'
                go_simp
                with_reducible rfl
              rotate_left
              · simp only [Act.put, List.setIfInBounds_toArray, List.set_cons_zero, List.set_cons_succ]
                rfl
              refine one_ (i := 16) (N := some 45) #[true, true, true, true, true, true, true, true, true, true, true, true, true, true, true, true, true, false, true, false, false, false] rfl rfl (by kernel_rfl) (by decide) (fun K hK => ?_)
              refine value_ (w1 := ?_) (v := ?_) (by rfl) rfl ?_ ?_
              rotate_left 2
              · go_simp
                constructor
                · rfl
                · rfl
              have M7_8_16_ := Lib.hid (M7_8_.out.alloc (Obj.cells #[Value.float FloatKind.f32 zd] 23))
              have N167_8_16_ := Lib.hid (Mid.newCell M7_8_.out zd (wx7_8_.heap.size) (by simp))
              refine hK.out _ _ ⟨(SF.out _ _ _ _ _ _ _ M7_8_16_.out).1, (SF.out _ _ _ _ _ _ _ M7_8_16_.out).2.1, (SF.out _ _ _ _ _ _ _ M7_8_16_.out).2.2.1, (SF.out _ _ _ _ _ _ _ M7_8_16_.out).2.2.2.1, (SF.out _ _ _ _ _ _ _ M7_8_16_.out).2.2.2.2.1, (SF.out _ _ _ _ _ _ _ M7_8_16_.out).2.2.2.2.2⟩ (fun hHeld => ?_)
              clear hK K
              refine norm_ (a' := ?_) ?_ ?_
              rotate_left
              · show Act.put _ (some 45) _ = _
                simp only [Act.put, List.setIfInBounds_toArray, List.set_cons_zero, List.set_cons_succ]
                rfl
              exact norm_ (by first | (simp only [putAll, Act.put, List.setIfInBounds_toArray, List.set_cons_zero, List.set_cons_succ]; done) | (simp only [putAll, Act.put, List.setIfInBounds_toArray, List.set_cons_zero, List.set_cons_succ]; rfl)) (hCont ⟨w6.heap.size, g, cap, wx7_8_.heap.size⟩ _ ⟨M7_8_16_.out, N167_8_16_.out⟩)
            · skip
              refine value_ (w1 := ?_) (v := ?_) (by rfl) rfl ?_ ?_
              rotate_left 2
              · go_simp
                constructor
                · rfl
                · rfl
              have M7_16_ := Lib.hid (M7_.out.alloc (Obj.cells #[Value.float FloatKind.f32 zd] 23))
              have N167_16_ := Lib.hid (Mid.newCell M7_.out zd (w6.heap.size + 1) (by simp))
              have N77_16_ := Lib.hid (Lib.cell?_alloc_some (Obj.cells #[Value.float FloatKind.f32 zd] 23) N77_.out)
              refine hK.out _ _ ⟨(SF.out _ _ _ _ _ _ _ M7_16_.out).1, (SF.out _ _ _ _ _ _ _ M7_16_.out).2.1, (SF.out _ _ _ _ _ _ _ M7_16_.out).2.2.1, (SF.out _ _ _ _ _ _ _ M7_16_.out).2.2.2.1, (SF.out _ _ _ _ _ _ _ M7_16_.out).2.2.2.2.1, (SF.out _ _ _ _ _ _ _ M7_16_.out).2.2.2.2.2⟩ (fun hHeld => ?_)
              clear hK K
              refine norm_ (a' := ?_) ?_ ?_
              rotate_left
              · show Act.put _ (some 45) _ = _
                simp only [Act.put, List.setIfInBounds_toArray, List.set_cons_zero, List.set_cons_succ]
                rfl
              refine one_ (i := 8) (N := some 37) #[true, true, true, true, true, true, true, true, true, true, true, true, true, true, true, true, true, false, false, false, false, false] rfl rfl (by kernel_rfl) (by decide) (fun K hK => ?_)
              refine step_append_lies _ (by rfl) _ _ _ (by rfl) (w.heap.size + 2) 23 i0 (.float .f32 0) 1 4 Try.underlying22 hi hz0 hz1 hz2 rfl (by decide) _ (sel p L k).length _ (by rfl) M7_16_.out.own.ol _ 1 1 [.float .f32 zl] (by rfl) rfl (fun j u hj => news_one N77_16_.out hj) (fun u hu => by simp at hu; subst hu; rfl) (by omega) (by unfold maxLen; omega) (by omega) M7_16_.out.sz _ rfl ?_
              intro g cap wx7_16_8_ hown hgrow hat hlt
              have M7_16_8_ := Lib.hid (M7_16_.out.appL hown hgrow hat)
              have N167_16_8_ := Lib.hid (cell_kept N167_16_.out hgrow (Mid.newNe M0.out.own.ol (by simp)))
              clear hown hgrow hat hlt
              refine hK.out _ _ ⟨(SF.out _ _ _ _ _ _ _ M7_16_8_.out).1, (SF.out _ _ _ _ _ _ _ M7_16_8_.out).2.1, (SF.out _ _ _ _ _ _ _ M7_16_8_.out).2.2.1, (SF.out _ _ _ _ _ _ _ M7_16_8_.out).2.2.2.1, (SF.out _ _ _ _ _ _ _ M7_16_8_.out).2.2.2.2.1, (SF.out _ _ _ _ _ _ _ M7_16_8_.out).2.2.2.2.2⟩ (fun hHeld => ?_)
              clear hK K
              refine norm_ (a' := ?_) ?_ ?_
              rotate_left
              · show Act.put _ (some 37) _ = _
                simp only [Act.put, List.setIfInBounds_toArray, List.set_cons_zero, List.set_cons_succ]
                rfl
              refine pure_ (i := 18) (N := some 47) (v := ?_) (a' := ?_) #[true, true, true, true, true, true, true, true, true, true, true, true, true, true, true, true, true, false, true, false, false, false] rfl rfl (by kernel_rfl) (fun _ _ _ h => h) (Or.inl ⟨by rfl, ?_⟩) ?_ ?_
              rotate_left
              · intro w'
                go_simp
                with_reducible rfl
              rotate_left
              · simp only [Act.put, List.setIfInBounds_toArray, List.set_cons_zero, List.set_cons_succ]
                rfl
              exact norm_ (by first | (simp only [putAll, Act.put, List.setIfInBounds_toArray, List.set_cons_zero, List.set_cons_succ]; done) | (simp only [putAll, Act.put, List.setIfInBounds_toArray, List.set_cons_zero, List.set_cons_succ]; rfl)) (hCont ⟨w6.heap.size, g, cap, w6.heap.size + 1⟩ _ ⟨M7_16_8_.out, N167_16_8_.out⟩)
          · skip
            refine value_ (w1 := ?_) (v := ?_) (by rfl) rfl ?_ ?_
            rotate_left 2
            · go_simp
              constructor
              · rfl
              · rfl
            have M16_ := Lib.hid (M0.out.alloc (Obj.cells #[Value.float FloatKind.f32 zd] 23))
            have N1616_ := Lib.hid (Mid.newCell M0.out zd (w6.heap.size) (by simp))
            refine hK.out _ _ ⟨(SF.out _ _ _ _ _ _ _ M16_.out).1, (SF.out _ _ _ _ _ _ _ M16_.out).2.1, (SF.out _ _ _ _ _ _ _ M16_.out).2.2.1, (SF.out _ _ _ _ _ _ _ M16_.out).2.2.2.1, (SF.out _ _ _ _ _ _ _ M16_.out).2.2.2.2.1, (SF.out _ _ _ _ _ _ _ M16_.out).2.2.2.2.2⟩ (fun hHeld => ?_)
            clear hK K
            refine norm_ (a' := ?_) ?_ ?_
            rotate_left
            · show Act.put _ (some 45) _ = _
              simp only [Act.put, List.setIfInBounds_toArray, List.set_cons_zero, List.set_cons_succ]
              rfl
            refine one_ (i := 7) (N := some 36) #[true, true, true, true, true, true, true, true, false, true, true, true, true, true, true, true, true, false, false, false, false, false] rfl rfl (by kernel_rfl) (by decide) (fun K hK => ?_)
            refine value_ (w1 := ?_) (v := ?_) (by rfl) rfl ?_ ?_
            rotate_left 2
            · go_simp
              constructor
              · rfl
              · rfl
            have M16_7_ := Lib.hid (M16_.out.alloc (Obj.cells #[Value.float FloatKind.f32 zl] 23))
            have N716_7_ := Lib.hid (Mid.newCell M16_.out zl (w6.heap.size + 1) (by simp))
            have N1616_7_ := Lib.hid (Lib.cell?_alloc_some (Obj.cells #[Value.float FloatKind.f32 zl] 23) N1616_.out)
            refine hK.out _ _ ⟨(SF.out _ _ _ _ _ _ _ M16_7_.out).1, (SF.out _ _ _ _ _ _ _ M16_7_.out).2.1, (SF.out _ _ _ _ _ _ _ M16_7_.out).2.2.1, (SF.out _ _ _ _ _ _ _ M16_7_.out).2.2.2.1, (SF.out _ _ _ _ _ _ _ M16_7_.out).2.2.2.2.1, (SF.out _ _ _ _ _ _ _ M16_7_.out).2.2.2.2.2⟩ (fun hHeld => ?_)
            clear hK K
            refine norm_ (a' := ?_) ?_ ?_
            rotate_left
            · show Act.put _ (some 36) _ = _
              simp only [Act.put, List.setIfInBounds_toArray, List.set_cons_zero, List.set_cons_succ]
              rfl
            refine one_ (i := 8) (N := some 37) #[true, true, true, true, true, true, true, true, true, true, true, true, true, true, true, true, true, false, false, false, false, false] rfl rfl (by kernel_rfl) (by decide) (fun K hK => ?_)
            refine step_append_lies _ (by rfl) _ _ _ (by rfl) (w.heap.size + 2) 23 i0 (.float .f32 0) 1 4 Try.underlying22 hi hz0 hz1 hz2 rfl (by decide) _ (sel p L k).length _ (by rfl) M16_7_.out.own.ol _ 1 1 [.float .f32 zl] (by rfl) rfl (fun j u hj => news_one N716_7_.out hj) (fun u hu => by simp at hu; subst hu; rfl) (by omega) (by unfold maxLen; omega) (by omega) M16_7_.out.sz _ rfl ?_
            intro g cap wx16_7_8_ hown hgrow hat hlt
            have M16_7_8_ := Lib.hid (M16_7_.out.appL hown hgrow hat)
            have N1616_7_8_ := Lib.hid (cell_kept N1616_7_.out hgrow (Mid.newNe M0.out.own.ol (by simp)))
            clear hown hgrow hat hlt
            refine hK.out _ _ ⟨(SF.out _ _ _ _ _ _ _ M16_7_8_.out).1, (SF.out _ _ _ _ _ _ _ M16_7_8_.out).2.1, (SF.out _ _ _ _ _ _ _ M16_7_8_.out).2.2.1, (SF.out _ _ _ _ _ _ _ M16_7_8_.out).2.2.2.1, (SF.out _ _ _ _ _ _ _ M16_7_8_.out).2.2.2.2.1, (SF.out _ _ _ _ _ _ _ M16_7_8_.out).2.2.2.2.2⟩ (fun hHeld => ?_)
            clear hK K
            refine norm_ (a' := ?_) ?_ ?_
            rotate_left
            · show Act.put _ (some 37) _ = _
              simp only [Act.put, List.setIfInBounds_toArray, List.set_cons_zero, List.set_cons_succ]
              rfl
            refine pure_ (i := 18) (N := some 47) (v := ?_) (a' := ?_) #[true, true, true, true, true, true, true, true, true, true, true, true, true, true, true, true, true, false, true, false, false, false] rfl rfl (by kernel_rfl) (fun _ _ _ h => h) (Or.inl ⟨by rfl, ?_⟩) ?_ ?_
            rotate_left
            · intro w'
              go_simp
              with_reducible rfl
            rotate_left
            · simp only [Act.put, List.setIfInBounds_toArray, List.set_cons_zero, List.set_cons_succ]
              rfl
            exact norm_ (by first | (simp only [putAll, Act.put, List.setIfInBounds_toArray, List.set_cons_zero, List.set_cons_succ]; done) | (simp only [putAll, Act.put, List.setIfInBounds_toArray, List.set_cons_zero, List.set_cons_succ]; rfl)) (hCont ⟨w6.heap.size + 1, g, cap, w6.heap.size⟩ _ ⟨M16_7_8_.out, N1616_7_8_.out⟩)
        rintro ⟨sb, sg, sc, sd⟩ wj ⟨hm, hn⟩
        dsimp only at hm hn
        have MJ := Lib.hid hm; have NJ := Lib.hid hn
        clear hm hn
        have hHeld := SF.out _ _ _ _ _ _ _ MJ.out
        refine norm_ (a' := ?_) ?_ ?_
        rotate_left
        · simp only [putAll, Act.put, List.setIfInBounds_toArray, List.set_cons_zero, List.set_cons_succ]
          rfl
        refine one_ (i := 17) (N := some 46) #[true, true, true, true, true, true, true, true, true, true, true, true, true, true, true, true, true, true, true, false, false, false] rfl rfl (by kernel_rfl) (by decide) (fun K hK => ?_)
        refine step_append_lies _ (by rfl) _ _ _ (by rfl) (w.heap.size + 2) 23 i0 (.float .f32 0) 1 4 Try.underlying22 hi hz0 hz1 hz2 rfl (by decide) _ (sel p D k).length _ (by rfl) MJ.out.own.od _ 1 1 [.float .f32 zd] (by rfl) rfl (fun j u hj => news_one NJ.out hj) (fun u hu => by simp at hu; subst hu; rfl) (by omega) (by unfold maxLen; omega) (by omega) MJ.out.sz _ rfl ?_
        intro g2 cap2 wk hown hgrow hat hlt
        have MK := Lib.hid (MJ.out.appD hown hgrow hat)
        clear hown hgrow hat hlt
        obtain ⟨⟨o0, o1, o2⟩, e0, e1, e2⟩ := cells3 MK.out.blk
        refine hK.out _ _ ⟨(SF.out _ _ _ _ _ _ _ MK.out).1, (SF.out _ _ _ _ _ _ _ MK.out).2.1, (SF.out _ _ _ _ _ _ _ MK.out).2.2.1, (SF.out _ _ _ _ _ _ _ MK.out).2.2.2.1, (SF.out _ _ _ _ _ _ _ MK.out).2.2.2.2.1, (SF.out _ _ _ _ _ _ _ MK.out).2.2.2.2.2⟩ (fun hHeld => ?_)
        clear hK K
        refine norm_ (a' := ?_) ?_ ?_
        rotate_left
        · show Act.put _ (some 46) _ = _
          simp only [Act.put, List.setIfInBounds_toArray, List.set_cons_zero, List.set_cons_succ]
          rfl
        refine last_ (i := 19) (N := none) #[true, true, true, true, true, true, true, true, true, true, true, true, true, true, true, true, true, true, true, true, false, false] rfl rfl (by kernel_rfl) (by decide) (fun K hK => ?_)
        refine skip_ (w1 := ?_) (by rfl) rfl ?_ ?_
        rotate_left
        · go_simp
          rfl
        refine hK.out _ _ ?_
        clear hK K
        refine pure_ (i := 20) (N := some 48) (v := ?_) (a' := ?_) #[true, true, true, true, true, true, true, true, true, true, true, true, true, true, true, true, true, true, true, true, true, false] rfl rfl (by kernel_rfl) (fun _ _ _ h => h) (Or.inl ⟨by rfl, ?_⟩) ?_ ?_
        rotate_left
        · intro w'
          go_simp
          with_reducible rfl
        rotate_left
        · simp only [Act.put, List.setIfInBounds_toArray, List.set_cons_zero, List.set_cons_succ]
          rfl
        refine last_ (i := 21) (N := none) #[true, true, true, true, true, true, true, true, true, true, true, true, true, true, true, true, true, true, true, true, true, true] rfl rfl (by kernel_rfl) (by decide) (fun K hK => ?_)
        refine skip_ (w1 := ?_) (by rfl) rfl ?_ ?_
        rotate_left
        · go_simp
          rfl
        refine hK.out _ _ ?_
        clear hK K
        refine done_ (by kernel_rfl) ?_
        go_wp2
        go_roundw
        case rel => exact ⟨k + 1, _, _, _, by omega, by go_num, by rw [HY.out.1, HY.out.2.1, HY.out.2.2]; exact MK.out.done.1, MK.out.done.2.1, MK.out.done.2.2⟩
        case measure => simp [intOf]; omega
    · have hkl : k = A.length := by omega
      subst hkl
      have KR : Hid (Blk wr (w.heap.size + 1) #[Value.slice none 0 0, Value.slice none 0 0, Value.slice none 0 0] 36) := Lib.hid (K2.out.keep HBR.out (by omega))
      obtain ⟨⟨r0, r1, r2⟩, f0, f1, f2⟩ := cells3 KR.out
      obtain ⟨x4, y4, z4, rfl⟩ := own_shape HST.out.oa
      obtain ⟨x5, y5, z5, rfl⟩ := own_shape HST.out.ol
      obtain ⟨x6, y6, z6, rfl⟩ := own_shape HST.out.od
      obtain ⟨⟨o0, o1, o2⟩, _⟩ := cells3 HST.out.blk
      have HO : Hid (Own3 wr w.heap.size (Value.slice x4 y4 z4) (Value.slice x5 y5 z5) (Value.slice x6 y6 z6) (sel p A A.length) (sel p L A.length) (sel p D A.length)) := Lib.hid (HST.out.own3.base (by omega))
      have KW := Lib.hid (set3_blk KR.out (Value.slice x4 y4 z4) (Value.slice x5 y5 z5) (Value.slice x6 y6 z6))
      have HBW := Lib.hid (set3_below (b := w.heap.size + 1) HBT.out (by omega) (Value.slice x4 y4 z4) (Value.slice x5 y5 z5) (Value.slice x6 y6 z6))
      have HOW := Lib.hid (set3_own HO.out KR.out (Value.slice x4 y4 z4) (Value.slice x5 y5 z5) (Value.slice x6 y6 z6))
      go_wp2
      obtain ⟨⟨q0, q1, q2⟩, _⟩ := cells3 KW.out
      unfold set3 at q0 q1 q2
      refine bodyPost_ret (v := .agg #[Value.slice x4 y4 z4, Value.slice x5 y5 z5, Value.slice x6 y6 z6]) (by simp [results, Try.results76, go_sem, q0, q1, q2]) rfl ⟨_, _, _, rfl, HOW.out, HBW.out⟩

end Go.Proofs.Ytdkgdinbglkjcaa
