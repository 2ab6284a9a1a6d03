/- The generators that the laws call. -/
import Derived.Test.YtcaceplnlfmejaaGreatDoorNz3
namespace Go.Proofs.YtcaceplnlfmejaaGreatDoor
open Fl Go.RowKit

/-- A slice of bytes. -/
structure BS (w : World) (v : Value) (code : List Int) : Prop where
  sl : XS fB w v code
  by' : ∀ z ∈ code, 0 ≤ z ∧ z ≤ 255
theorem BS.later {w w' : World} {v : Value} {code : List Int} (h : BS w v code) (hb : Below w.heap.size w w') : BS w' v code := ⟨h.sl.later hb, h.by'⟩

theorem zb_below_new {w w' : World} {o : Obj} (h : (w.alloc o).grownBy w' (some w.heap.size)) : Below w.heap.size w w' :=
  Below.grown ((Below.refl _ w).alloc (Nat.le_refl _) o) h (by simp) (fun k e => by cases e; exact Nat.le_refl _)

theorem spec_l00From (w : World) (v : Value) (code : List Int) (h : BS w v code) (hl : code.length ≤ 1048576) :
    Calls Tryz.prog 38 #[v] w (fun e w' => e = .returned (.pointer (some ⟨w.heap.size, 0, none⟩)) ∧ Src w w' w.heap.size v code 0 ∧ ∃ o, w' = w.alloc o) := by
  have H := Lib.hid h
  obtain ⟨a, len, cap, rfl⟩ := h.sl.shape
  have HL := Lib.hid hl
  clear h hl
  go_enter Tryz.func38, Tryz.ntmps38
  go_wp2
  go_ret
  exact ⟨rfl, ⟨H.out.sl, H.out.by', HL.out, (Below.refl _ _).alloc (Nat.le_refl _) _, Nat.le_refl _, 0, Blk.new _ _ _⟩, _, rfl⟩

theorem spec_B10Number (w : World) (v : Value) (code : List Int) (h : BS w v code) (hl : code.length ≤ 1048576) :
    Calls Tryz.prog 19 #[v] w (fun e w' => ∃ x, e = .returned (.float .f32 x) ∧ W32 x ∧ Below w.heap.size w w') := by
  have HFR := Lib.hid (spec_l00From w v code h hl)
  obtain ⟨a, len, cap, rfl⟩ := h.sl.shape
  clear h hl
  go_enter Tryz.func19, Tryz.ntmps19
  go_wp2_with fail
  refine HFR.out.mono ?_
  rintro e w1 ⟨rfl, hs, o, rfl⟩
  have H1 := Lib.hid hs
  clear hs HFR
  generalize hsb : w.heap.size = sb at *
  have HSB := Lib.hid hsb
  clear hsb
  go_wp2_with fail
  refine (src_one _ _ _ _ _ _ H1.out (by omega) 2 (by decide) (by decide)).mono ?_
  rintro e w2 ⟨v, n2, rfl, ⟨b, rfl⟩, hn2, hs, hg⟩
  have H2 := Lib.hid hs; have G2 := Lib.hid hg; have HN2 := Lib.hid hn2
  clear hs hg hn2
  cases b
  · go_wp2_with fail
    refine (src_float _ _ _ _ _ _ H2.out (by have := HN2.out; omega)).mono ?_
    rintro e w3 ⟨v, n3, rfl, ⟨z, rfl, hz⟩, hn3, hs, hg⟩
    have G3 := Lib.hid (G2.out.trans hg); have HZ := Lib.hid hz
    clear hs hg hn3 hz
    go_wp2
    go_ret
    refine ⟨_, rfl, HZ.out, ?_⟩
    have := G3.out
    rw [← HSB.out] at this
    exact zb_below_new this
  · go_wp2_with fail
    refine (src_pick _ _ _ _ _ _ H2.out (by have := HN2.out; omega) 65536 (by decide) (by decide)).mono ?_
    rintro e w3 ⟨v, n3, rfl, ⟨y, rfl, y0, y1⟩, hn3, hs, hg⟩
    have H3 := Lib.hid hs; have G3 := Lib.hid (G2.out.trans hg); have HN3 := Lib.hid (show n3 ≤ 4 by have := HN2.out; omega)
    clear hs hg hn3
    go_wp2_with fail
    refine (src_pick _ _ _ _ _ _ H3.out (by have := HN3.out; omega) 65536 (by decide) (by decide)).mono ?_
    rintro e w4 ⟨v, n4, rfl, ⟨z, rfl, z0, z1⟩, hn4, hs, hg⟩
    have G4 := Lib.hid (G3.out.trans hg)
    clear hs hg hn4
    go_wp2_with fail
    refine (spec_l01From _ (by omega) (by omega) _).mono ?_
    rintro e w5 ⟨rfl, d, rfl⟩
    go_wp2
    go_ret
    refine ⟨_, rfl, by unfold W32; omega, ?_⟩
    have := G4.out
    rw [← HSB.out] at this
    exact below_dn (zb_below_new this) _

theorem spec_B10Numbers (w : World) (v : Value) (code : List Int) (h : BS w v code) (hl : code.length ≤ 1048576) (m : Nat) (hm : m ≤ 12) :
    Calls Tryz.prog 29 #[v, .int .i64 (m : Int)] w (fun e w' => ∃ v' zs, e = .returned v' ∧ XS fF w' v' zs ∧ zs.length ≤ 12 ∧ (∀ z ∈ zs, W32 z) ∧ Below w.heap.size w w') := by
  have HFR := Lib.hid (spec_l00From w v code h hl)
  obtain ⟨a, len, cap, rfl⟩ := h.sl.shape
  have HM := Lib.hid hm
  clear h hl hm
  go_enter Tryz.func29, Tryz.ntmps29
  go_wp2_with fail
  refine HFR.out.mono ?_
  rintro e w1 ⟨rfl, hs, o, rfl⟩
  have H1 := Lib.hid hs
  clear hs HFR
  go_wp2_with fail
  refine (src_floats _ _ _ _ _ _ H1.out (by omega) m HM.out).mono ?_
  rintro e w2 ⟨v', zs, rfl, ho, hzl, hw, hg⟩
  have HX := Lib.hid ho.XS; have HZ := Lib.hid hzl; have HW := Lib.hid hw; have HG := Lib.hid (zb_below_new hg)
  obtain ⟨a', len', cap', rfl⟩ := ho.XS.shape
  clear ho hzl hw hg
  go_wp2
  go_ret
  exact ⟨_, zs, rfl, HX.out, by have := HM.out; have := HZ.out; omega, HW.out, HG.out⟩

theorem laws_b10Long (w : World) (a1 a2 : Option Addr) (l1 l2 c1 c2 : Nat) : Calls Tryz.prog 5 #[.slice a1 l1 c1, .slice a2 l2 c2] w (Ret (.bool (decide (1048576 < (l1 : Int)) || decide (1048576 < (l2 : Int)))) w) := by
  by_cases h1 : 1048576 < (l1 : Int)
  · rw [decide_eq_true h1]
    go_enter Tryz.func5, Tryz.ntmps5
    go_wp2
    go_ret
    exact .mk' 0 rfl rfl
  · rw [decide_eq_false h1]
    by_cases h2 : 1048576 < (l2 : Int)
    · rw [decide_eq_true h2]
      go_enter Tryz.func5, Tryz.ntmps5
      go_wp2
      go_ret
      exact .mk' 0 rfl rfl
    · rw [decide_eq_false h2]
      go_enter Tryz.func5, Tryz.ntmps5
      go_wp2
      go_ret
      exact .mk' 0 rfl rfl

theorem laws_b10At (w : World) (v : Value) (code : List Int) (h : BS w v code) (i : Nat) (hi : i ≤ 100) (n : Nat) (hn : 2 ≤ n) (hn2 : n ≤ 1000) :
    Calls Tryz.prog 16 #[v, .int .i64 (i : Int), .int .i64 (n : Int)] w (fun e w' => ∃ x : Nat, e = .returned (.int .i64 (x : Int)) ∧ x < n ∧ w' = w) := by
  obtain ⟨a, len, cap, rfl⟩ := h.sl.shape
  obtain ⟨rfl, hm, HC⟩ := h.sl.at
  have HB := Lib.hid h.by'
  clear h hm
  have hn1 : ¬ (n : Int) ≤ 1 := by omega
  have hi' : (i : Int) ≤ 100 := by omega
  have hn2' : (n : Int) ≤ 1000 := by omega
  have hn3 : (2 : Int) ≤ (n : Int) := by omega
  by_cases hlt : i < code.length
  · have hlt' : (i : Int) < code.length := by omega
    obtain ⟨b, off, rfl, hb, hcx⟩ := HC.out i code[i] (by simp [hlt])
    obtain ⟨x0, x1⟩ := HB.out code[i] (List.getElem_mem _)
    have hcx' : w.cell? ⟨b, off + i, none⟩ = some (.int .u8 code[i]) := hcx
    generalize code[i] = x at *
    have hwx : IntKind.i64.wrap x = x := by rw [IntKind.wrap_i64]; omega
    clear HB HC hcx
    go_enter Tryz.func16, Tryz.ntmps16
    go_wp2
    go_ret
    exact ⟨(x % n).toNat, by rw [Int.toNat_of_nonneg (Int.emod_nonneg _ (by omega))]; rfl, by have := Int.emod_lt_of_pos x (show (0 : Int) < n by omega); have := Int.emod_nonneg x (show (n : Int) ≠ 0 by omega); omega, rfl⟩
  · have hlt' : ¬ (i : Int) < code.length := by omega
    clear HB HC
    go_enter Tryz.func16, Tryz.ntmps16
    go_wp2
    go_ret
    exact ⟨(((i : Int) * 37 + 11) % n).toNat, by rw [Int.toNat_of_nonneg (Int.emod_nonneg _ (by omega))]; rfl, by have := Int.emod_lt_of_pos ((i : Int) * 37 + 11) (show (0 : Int) < n by omega); have := Int.emod_nonneg ((i : Int) * 37 + 11) (show (n : Int) ≠ 0 by omega); omega, rfl⟩

end Go.Proofs.YtcaceplnlfmejaaGreatDoor
