/- What is drawn from a source: any float, lists of floats. -/
import Derived.Test.YtcaceplnlfmejaaGreatDoorNz2
import Derived.Test.YtcaceplnlfmejaaGreatDoorWt36
namespace Go.Proofs.YtcaceplnlfmejaaGreatDoor
open Fl Go.RowKit

theorem lit_cells (w : World) (T : TypeId) (zs : List Int) (i : Nat) (x : Int) (h : zs[i]? = some x) : (w.alloc (.cells (zs.map (Value.int .i64)).toArray T)).cell? ⟨w.heap.size, i, none⟩ = some (.int .i64 x) := by
  rw [(Blk.new w _ _).cell]
  simp [h]
theorem Dr.of {w0 w w1 w2 : World} {sb : Nat} {cv : Value} {code : List Int} {n n1 m : Nat} {P : Value → Prop} {v : Value} (hp : P v) (hn : n1 ≤ n + m) (hs : Src w0 w2 sb cv code n1) (hg : w.grownBy w1 (some sb)) (hk : w1.grownBy w2 (some sb)) : Dr w0 w sb cv code n m P (.returned v) w2 :=
  ⟨v, n1, rfl, hp, hn, hs, hg.trans hk⟩

theorem gb_then {a b c : World} {row row' : Option Nat} (h : a.grownBy b row) (k : b.grownBy c row') (hr : ∀ j, row' = some j → a.heap.size ≤ j ∨ row = some j) : a.grownBy c row :=
  ⟨k.os.trans h.os, k.tape.trans h.tape, k.output.trans h.output, Nat.le_trans h.size k.size, fun i hi hn => by
    rw [k.block i (Nat.lt_of_lt_of_le hi h.size) (fun e => (hr i e.symm).elim (fun q => by omega) (fun q => hn q.symm))]
    exact h.block i hi hn⟩
theorem src_push {w0 w wr w3 w4 : World} {sb : Nat} {cv : Value} {code : List Int} {nn g k c : Nat} {o : Obj} {done : List Nat} (H : Src w0 w3 sb cv code nn) (ho : OwnX fF 28 wr w.heap.size (.slice (some ⟨g, 0, none⟩) k c) done) (hsb : sb < w.heap.size) (hg : w.grownBy wr (some sb)) (hg3 : wr.grownBy w3 (some sb))
    (h4 : (w3.alloc o).grownBy w4 (Value.slice (some ⟨g, 0, none⟩) k c).ownBlock) : Src w0 w4 sb cv code nn ∧ w.grownBy w4 (some sb) := by
  have hl := (own_lt ho (show (Value.slice (some ⟨g, 0, none⟩) k c).ownBlock = some g from rfl)).1
  have e : (Value.slice (some ⟨g, 0, none⟩) k c).ownBlock = some g := rfl
  rw [e] at h4
  have hf := H.far
  have h5 : w3.grownBy w4 (some g) := (World.grownBy_alloc _ _ _).trans h4
  refine ⟨H.keep h5 (by simp; omega) (fun j hj => by cases hj; omega), gb_then (hg.trans hg3) h5 (fun j hj => ?_)⟩
  cases hj
  exact .inl hl
theorem own_walk {wr w3 : World} {sb B g k c : Nat} {done : List Nat} (ho : OwnX fF 28 wr B (.slice (some ⟨g, 0, none⟩) k c) done) (hsb : sb < B) (hg3 : wr.grownBy w3 (some sb)) : OwnX fF 28 w3 B (.slice (some ⟨g, 0, none⟩) k c) done := by
  have hl := (own_lt ho (show (Value.slice (some ⟨g, 0, none⟩) k c).ownBlock = some g from rfl)).1
  exact World.ownsRow.kept ho hg3 (.inr (by simp [Value.ownBlock]; omega))

set_option maxRecDepth 20000 in
theorem src_float (w0 w : World) (sb : Nat) (cv : Value) (code : List Int) (n : Nat) (h : Src w0 w sb cv code n) (hn : n + 12 ≤ 1000000) :
    Calls Tryz.prog 52 #[.pointer (some ⟨sb, 0, none⟩)] w (Dr w0 w sb cv code n 12 isF) := by
  have H := Lib.hid h; have HN := Lib.hid hn
  clear h hn
  go_enter Tryz.func52, Tryz.ntmps52
  go_wp2_with fail
  refine (src_one _ _ _ _ _ _ H.out (by have := HN.out; omega) 12 (by decide) (by decide)).mono ?_
  rintro e w1 ⟨v, n1, rfl, ⟨b, rfl⟩, hn1, hs, hg⟩
  have H1 := Lib.hid hs; have G1 := Lib.hid hg; have HN1 := Lib.hid hn1
  clear hs hg hn1
  cases b
  · go_wp2_with fail
    refine (src_plain _ _ _ _ _ _ H1.out (by have := HN.out; have := HN1.out; omega)).mono ?_
    rintro e w2 ⟨v, n2, rfl, ⟨z, rfl, hz⟩, hn2, hs, hg⟩
    have H2 := Lib.hid hs; have G2 := Lib.hid hg; have HN2 := Lib.hid hn2; have HZ := Lib.hid hz
    clear hs hg hn2 hz
    go_wp2
    go_ret
    exact .of ⟨_, rfl, HZ.out⟩ (by have := HN1.out; have := HN2.out; omega) H2.out G1.out G2.out
  · go_wp2_with fail
    refine (src_pick _ _ _ _ _ _ H1.out (by have := HN.out; have := HN1.out; omega) 4 (by decide) (by decide)).mono ?_
    rintro e w2 ⟨v, n2, rfl, ⟨x, rfl, x0, x1⟩, hn2, hs, hg⟩
    have H2 := Lib.hid hs; have G2 := Lib.hid (G1.out.trans hg); have HN2 := Lib.hid (show n2 ≤ n + 4 by have := HN1.out; omega)
    clear hs hg hn2 G1 H1 HN1
    rcases (show x = 0 ∨ x = 1 ∨ x = 2 ∨ x = 3 by omega) with rfl | rfl | rfl | rfl
    · go_wp2_with fail
      have H3 : Hid (Src w0 (w2.alloc (.cells (([0, 2147483648, 2139095040, 4286578688, 2143289344, 1, 2139095039, 8388608, 8388607, 2147483649] : List Int).map (Value.int .i64)).toArray 2)) sb cv code n2) := Lib.hid (H2.out.keep (World.grownBy_alloc _ _ none) (by simp) (by simp))
      have hsb : sb < w2.heap.size := by obtain ⟨_, hk⟩ := H2.out.blk; exact hk.lt
      refine (src_among _ _ _ _ _ _ H3.out (by have := HN.out; have := HN2.out; omega) w2.heap.size 10 [0, 2147483648, 2139095040, 4286578688, 2143289344, 1, 2139095039, 8388608, 8388607, 2147483649] (by decide) (by decide) (by simp) (by omega) (lit_cells _ _ _) (fun x => 0 ≤ x ∧ x ≤ 4294967295) (by decide)).mono ?_
      rintro e w3 ⟨v, n3, rfl, ⟨y, rfl, y0, y1⟩, hn3, hs, hg⟩
      have H4 := Lib.hid hs; have G3 := Lib.hid ((G2.out.trans (World.grownBy_alloc _ _ _)).trans hg); have HN3 := Lib.hid hn3
      clear hs hg hn3 hsb H3
      go_wp2_with fail
      refine (spec_l01From _ y0 y1 _).mono ?_
      rintro e w4 ⟨rfl, d, rfl⟩
      go_wp2
      go_ret
      exact .of ⟨_, rfl, by unfold W32; omega⟩ (by have := HN2.out; have := HN3.out; omega) (H4.out.drewN _) G3.out (zb_drewN _ _ _)
    · go_wp2_with fail
      refine (src_pick _ _ _ _ _ _ H2.out (by have := HN.out; have := HN2.out; omega) 65536 (by decide) (by decide)).mono ?_
      rintro e w3 ⟨v, n3, rfl, ⟨y, rfl, y0, y1⟩, hn3, hs, hg⟩
      have H3 := Lib.hid hs; have G3 := Lib.hid (G2.out.trans hg); have HN3 := Lib.hid (show n3 ≤ n + 6 by have := HN2.out; omega)
      clear hs hg hn3
      go_wp2_with fail
      refine (src_pick _ _ _ _ _ _ H3.out (by have := HN.out; have := HN3.out; omega) 65536 (by decide) (by decide)).mono ?_
      rintro e w4 ⟨v, n4, rfl, ⟨z, rfl, z0, z1⟩, hn4, hs, hg⟩
      have H4 := Lib.hid hs; have G4 := Lib.hid (G3.out.trans hg); have HN4 := Lib.hid (show n4 ≤ n + 8 by have := HN3.out; omega)
      clear hs hg hn4
      go_wp2_with fail
      refine (spec_l01From _ (by omega) (by omega) _).mono ?_
      rintro e w5 ⟨rfl, d, rfl⟩
      go_wp2
      go_ret
      exact .of ⟨_, rfl, by unfold W32; omega⟩ (by have := HN4.out; omega) (H4.out.drewN _) G4.out (zb_drewN _ _ _)
    · go_wp2_with fail
      refine (src_pick _ _ _ _ _ _ H2.out (by have := HN.out; have := HN2.out; omega) 65536 (by decide) (by decide)).mono ?_
      rintro e w3 ⟨v, n3, rfl, ⟨y, rfl, y0, y1⟩, hn3, hs, hg⟩
      have H3 := Lib.hid hs; have G3 := Lib.hid (G2.out.trans hg); have HN3 := Lib.hid (show n3 ≤ n + 6 by have := HN2.out; omega)
      clear hs hg hn3
      go_wp2_with fail
      refine (spec_l01From _ (by omega) (by omega) _).mono ?_
      rintro e w5 ⟨rfl, d, rfl⟩
      go_wp2
      go_ret
      exact .of ⟨_, rfl, by unfold W32; omega⟩ (by have := HN3.out; omega) (H3.out.drewN _) G3.out (zb_drewN _ _ _)
    · go_wp2_with fail
      refine (src_plain _ _ _ _ _ _ H2.out (by have := HN.out; have := HN2.out; omega)).mono ?_
      rintro e w3 ⟨v, n3, rfl, ⟨q, rfl, hq⟩, hn3, hs, hg⟩
      have H3 := Lib.hid hs; have G3 := Lib.hid (G2.out.trans hg); have HN3 := Lib.hid (show n3 ≤ n + 8 by have := HN2.out; omega)
      clear hs hg hn3 hq
      go_wp2_with fail
      have H4 : Hid (Src w0 (w3.alloc (.cells (([8388608, 2130706432, 1610612736, 536870912] : List Int).map (Value.int .i64)).toArray 2)) sb cv code n3) := Lib.hid (H3.out.keep (World.grownBy_alloc _ _ none) (by simp) (by simp))
      have hsb : sb < w3.heap.size := by obtain ⟨_, hk⟩ := H3.out.blk; exact hk.lt
      refine (src_among _ _ _ _ _ _ H4.out (by have := HN.out; have := HN3.out; omega) w3.heap.size 4 [8388608, 2130706432, 1610612736, 536870912] (by decide) (by decide) (by simp) (by omega) (lit_cells _ _ _) (fun x => 0 ≤ x ∧ x ≤ 4294967295) (by decide)).mono ?_
      rintro e w4 ⟨v, n4, rfl, ⟨y, rfl, y0, y1⟩, hn4, hs, hg⟩
      have H5 := Lib.hid hs; have G4 := Lib.hid ((G3.out.trans (World.grownBy_alloc _ _ _)).trans hg); have HN4 := Lib.hid hn4
      clear hs hg hn4 hsb H4
      go_wp2_with fail
      refine (spec_l01From _ y0 y1 _).mono ?_
      rintro e w5 ⟨rfl, d, rfl⟩
      go_wp2
      go_ret
      exact .of ⟨_, rfl, fa_lt .mul .f32 _ _ _⟩ (by have := HN3.out; have := HN4.out; omega) (H5.out.drewN _) G4.out (zb_drewN _ _ _)

set_option maxRecDepth 20000 in
theorem src_floats (w0 w : World) (sb : Nat) (cv : Value) (code : List Int) (n : Nat) (h : Src w0 w sb cv code n) (hn : n ≤ 1000) (m : Nat) (hm : m ≤ 12) :
    Calls Tryz.prog 63 #[.pointer (some ⟨sb, 0, none⟩), .int .i64 (m : Int)] w (fun e w' => ∃ v zs, e = .returned v ∧ OwnX fF 28 w' w.heap.size v zs ∧ zs.length = m ∧ (∀ z ∈ zs, W32 z) ∧ w.grownBy w' (some sb)) := by
  obtain ⟨iF, hi, hz0, hz1, hz2⟩ := info_parts infoF
  have hsb : sb < w.heap.size := by obtain ⟨_, hk⟩ := h.blk; exact hk.lt
  have HSB := Lib.hid hsb
  have H := Lib.hid (h.keep (World.grownBy_alloc w (.cells #[] 28) none) (by simp) (by simp)); have HN := Lib.hid hn
  have HM := Lib.hid hm
  have HF := Lib.hid h.far
  clear h hn hm hsb
  have hm' : (m : Int) ≤ 12 := by have := HM.out; omega
  go_enter Tryz.func63, Tryz.ntmps63
  go_wp2_with fail
  refine (src_one _ _ _ _ _ _ H.out (by have := HN.out; omega) 4 (by decide) (by decide)).mono ?_
  rintro e w1 ⟨v, n1, rfl, ⟨b, rfl⟩, hn1, hs, hg⟩
  have m0 : OwnX fF 28 (w.alloc (.cells #[] 28)) w.heap.size (.slice (some ⟨w.heap.size, 0, none⟩) 0 0) ([] : List Nat) := World.ownsRow_made _ _ 0 (Nat.le_refl _) (by unfold maxLen; omega) rfl
  have HO0 := Lib.hid (own_walk m0 HSB.out hg)
  clear m0
  have H1 := Lib.hid hs; have G1 := Lib.hid ((World.grownBy_alloc w (.cells #[] 28) (some sb)).trans hg); have HN1 := Lib.hid hn1
  clear hs hg hn1 H
  go_wp2_with fail
  go_loopw [1, 5] (fun i o wr => ∃ (k nn g c : Nat) (done : List Nat), done.length + k = m ∧ i = .int .i64 (k : Int) ∧ o = .slice (some ⟨g, 0, none⟩) done.length c ∧ OwnX fF 28 wr w.heap.size o done ∧ (∀ z ∈ done, W32 z) ∧ nn ≤ n + 2 + 12 * done.length ∧ Src w0 wr sb cv code nn ∧ w.grownBy wr (some sb)) (fun i _ _ => (intOf i).toNat)
  case atStart => exact ⟨m, n1, _, _, [], by simp, rfl, rfl, HO0.out, by simp, HN1.out, H1.out, G1.out⟩
  clear HO0 H1 G1 HN1
  case round =>
    obtain ⟨k, nn, g, c, done, hk, rfl, rfl, hown, hall, hnn, hs, hg⟩ := hrel
    have HO := Lib.hid hown; have HA := Lib.hid hall; have HN2 := Lib.hid hnn; have H2 := Lib.hid hs; have G2 := Lib.hid hg; have HK := Lib.hid hk
    have hdl : (done.length : Int) ≤ 12 := by have := HM.out; omega
    clear hown hall hnn hs hg hk
    cases k with
    | zero =>
      go_wp2
      go_ret
      exact ⟨_, done, rfl, HO.out, by have := HK.out; omega, HA.out, G2.out⟩
    | succ k =>
      have hk0 : (0 : Int) < ((k + 1 : Nat) : Int) := by omega
      have hk1 : ((k + 1 : Nat) : Int) ≤ 12 := by have := HK.out; have := HM.out; omega
      have ek : ((k + 1 : Nat) : Int) - 1 = (k : Int) := by omega
      rw [show ((k + 1 : Nat) : Int) = (k : Int) + 1 by omega] at *
      cases b
      · go_wp2_with fail
        refine (src_plain _ _ _ _ _ _ H2.out (by have := HN.out; have := HN2.out; have := HK.out; have := HM.out; omega)).mono ?_
        rintro e w2 ⟨v, n2, rfl, ⟨z, rfl, hz⟩, hn2, hs, hg⟩
        have HO2 := Lib.hid (own_walk HO.out HSB.out hg)
        have H3 := Lib.hid hs; have G3 := Lib.hid hg; have HN3 := Lib.hid hn2; have HZ := Lib.hid hz
        clear hs hg hn2 hz
        go_wp2_with (at_builtin; refine wpList_append_own_at _ rfl (.tmp 20) (.tmp 23) 52 rfl w.heap.size 28 iF (.float .f32 0) 1 4 Tryz.underlying52 hi hz0 hz1 hz2 rfl (by decide) (.slice (some ⟨g, 0, none⟩) done.length c) done.length (done.map fF) rfl (World.ownsRow.alloc HO2.out _) ⟨w2.heap.size, 0, none⟩ 1 1 [.float .f32 z] rfl rfl (news4 w2 _ _) (fun u hu => by simp at hu; subst hu; rfl) (by unfold maxLen; omega) (by omega) (by have := (G2.out.trans G3.out).size; simp; omega) ?_)
        intro v3 w3 ho hg hnil hat
        obtain ⟨g1, c1, rfl, hown⟩ := own_push ho
        have HO3 := Lib.hid hown
        have HP := Lib.hid (src_push H3.out HO.out HSB.out G2.out G3.out hg)
        clear ho hg hnil hat hown HO2 H3
        go_wp2
        go_roundw
        case rel => exact ⟨k, n2, g1, c1, done ++ [z], by have := HK.out; simp; omega, rfl, rfl, HO3.out, fun y hy => by rcases List.mem_append.1 hy with q | q; exact HA.out y q; (simp at q; subst q; exact HZ.out), by have := HN2.out; have := HN3.out; simp; omega, HP.out.1, HP.out.2⟩
        case measure => simp [intOf]
      · go_wp2_with fail
        refine (src_float _ _ _ _ _ _ H2.out (by have := HN.out; have := HN2.out; have := HK.out; have := HM.out; omega)).mono ?_
        rintro e w2 ⟨v, n2, rfl, ⟨z, rfl, hz⟩, hn2, hs, hg⟩
        have HO2 := Lib.hid (own_walk HO.out HSB.out hg)
        have H3 := Lib.hid hs; have G3 := Lib.hid hg; have HN3 := Lib.hid hn2; have HZ := Lib.hid hz
        clear hs hg hn2 hz
        go_wp2_with (at_builtin; refine wpList_append_own_at _ rfl (.tmp 15) (.tmp 18) 52 rfl w.heap.size 28 iF (.float .f32 0) 1 4 Tryz.underlying52 hi hz0 hz1 hz2 rfl (by decide) (.slice (some ⟨g, 0, none⟩) done.length c) done.length (done.map fF) rfl (World.ownsRow.alloc HO2.out _) ⟨w2.heap.size, 0, none⟩ 1 1 [.float .f32 z] rfl rfl (news4 w2 _ _) (fun u hu => by simp at hu; subst hu; rfl) (by unfold maxLen; omega) (by omega) (by have := (G2.out.trans G3.out).size; simp; omega) ?_)
        intro v3 w3 ho hg hnil hat
        obtain ⟨g1, c1, rfl, hown⟩ := own_push ho
        have HO3 := Lib.hid hown
        have HP := Lib.hid (src_push H3.out HO.out HSB.out G2.out G3.out hg)
        clear ho hg hnil hat hown HO2 H3
        go_wp2
        go_roundw
        case rel => exact ⟨k, n2, g1, c1, done ++ [z], by have := HK.out; simp; omega, rfl, rfl, HO3.out, fun y hy => by rcases List.mem_append.1 hy with q | q; exact HA.out y q; (simp at q; subst q; exact HZ.out), by have := HN2.out; have := HN3.out; simp; omega, HP.out.1, HP.out.2⟩
        case measure => simp [intOf]

end Go.Proofs.YtcaceplnlfmejaaGreatDoor
