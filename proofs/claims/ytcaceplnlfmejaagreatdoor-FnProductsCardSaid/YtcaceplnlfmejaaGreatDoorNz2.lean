/- What is drawn from a source: numbers, one of some, floats. -/
import Derived.Test.YtcaceplnlfmejaaGreatDoorNz1
namespace Go.Proofs.YtcaceplnlfmejaaGreatDoor
open Fl Go.RowKit

theorem Src.drewN {w0 w : World} {sb : Nat} {cv : Value} {code : List Int} {n : Nat} (h : Src w0 w sb cv code n) (m : Nat) : Src w0 (w.drewN m) sb cv code n := ⟨h.sl, h.by', h.le, below_dn h.bel m, h.far, h.blk⟩
theorem Src.keep {w0 w w' : World} {sb : Nat} {cv : Value} {code : List Int} {n : Nat} {row : Option Nat} (h : Src w0 w sb cv code n) (hg : w.grownBy w' row) (hne : row ≠ some sb) (hr : ∀ k, row = some k → w0.heap.size ≤ k) : Src w0 w' sb cv code n := by
  obtain ⟨seed, hk⟩ := h.blk
  exact ⟨h.sl, h.by', h.le, h.bel.grown hg h.bel.size hr, h.far, seed, hk.kept hg hne⟩
/-- What a draw hands back; how much it reads; what it leaves. -/
def Dr (w0 w : World) (sb : Nat) (cv : Value) (code : List Int) (n m : Nat) (P : Value → Prop) (e : Ending) (w' : World) : Prop := ∃ v n', e = .returned v ∧ P v ∧ n' ≤ n + m ∧ Src w0 w' sb cv code n' ∧ w.grownBy w' (some sb)
def isIn (k : Int) (v : Value) : Prop := ∃ x : Int, v = .int .i64 x ∧ 0 ≤ x ∧ x < k
def isB (v : Value) : Prop := ∃ b, v = .bool b
def isF (v : Value) : Prop := ∃ x, v = .float .f32 x ∧ W32 x

theorem src_pick (w0 w : World) (sb : Nat) (cv : Value) (code : List Int) (n : Nat) (h : Src w0 w sb cv code n) (hn : n + 2 ≤ 1000000) (k : Int) (hk : 2 ≤ k) (hk2 : k ≤ 65536) :
    Calls Tryz.prog 39 #[.pointer (some ⟨sb, 0, none⟩), .int .i64 k] w (Dr w0 w sb cv code n 2 (isIn k)) := by
  have H := Lib.hid h; have HN := Lib.hid hn
  clear h hn
  have hk1 : ¬ k ≤ 1 := by omega
  by_cases h2 : 200 < k
  · go_enter Tryz.func39, Tryz.ntmps39
    go_wp2_with fail
    refine (src_next _ _ _ _ _ _ H.out (by have := HN.out; omega)).mono ?_
    rintro e w1 ⟨x, x0, x1, rfl, hs, hg⟩
    have H1 := Lib.hid hs; have G1 := Lib.hid hg
    clear hs hg
    go_wp2_with fail
    refine (src_next _ _ _ _ _ _ H1.out (by have := HN.out; omega)).mono ?_
    rintro e w2 ⟨y, y0, y1, rfl, hs, hg⟩
    have H2 := Lib.hid hs; have G2 := Lib.hid hg
    clear hs hg
    go_wp2
    go_ret
    exact ⟨_, _, rfl, ⟨_, rfl, Int.emod_nonneg _ (by omega), Int.emod_lt_of_pos _ (by omega)⟩, Nat.le_refl _, H2.out, G1.out.trans G2.out⟩
  · go_enter Tryz.func39, Tryz.ntmps39
    go_wp2_with fail
    refine (src_next _ _ _ _ _ _ H.out (by have := HN.out; omega)).mono ?_
    rintro e w1 ⟨x, x0, x1, rfl, hs, hg⟩
    have H1 := Lib.hid hs; have G1 := Lib.hid hg
    clear hs hg
    go_wp2
    go_ret
    exact ⟨_, _, rfl, ⟨_, rfl, Int.emod_nonneg _ (by omega), Int.emod_lt_of_pos _ (by omega)⟩, by omega, H1.out, G1.out⟩

theorem src_one (w0 w : World) (sb : Nat) (cv : Value) (code : List Int) (n : Nat) (h : Src w0 w sb cv code n) (hn : n + 2 ≤ 1000000) (k : Int) (hk : 2 ≤ k) (hk2 : k ≤ 65536) :
    Calls Tryz.prog 50 #[.pointer (some ⟨sb, 0, none⟩), .int .i64 k] w (Dr w0 w sb cv code n 2 isB) := by
  have H := Lib.hid h; have HN := Lib.hid hn
  clear h hn
  go_enter Tryz.func50, Tryz.ntmps50
  go_wp2_with fail
  refine (src_pick _ _ _ _ _ _ H.out HN.out k hk hk2).mono ?_
  rintro e w1 ⟨v, n1, rfl, ⟨x, rfl, x0, x1⟩, hn1, hs, hg⟩
  have H1 := Lib.hid hs; have G1 := Lib.hid hg; have HN1 := Lib.hid hn1
  clear hs hg hn1
  go_wp2
  all_goals (go_ret; exact ⟨_, _, rfl, ⟨_, rfl⟩, HN1.out, H1.out, G1.out⟩)

theorem src_among (w0 w : World) (sb : Nat) (cv : Value) (code : List Int) (n : Nat) (h : Src w0 w sb cv code n) (hn : n + 2 ≤ 1000000) (b cap : Nat) (zs : List Int) (hl : 2 ≤ zs.length) (hl2 : zs.length ≤ 100) (hb : b < w.heap.size) (hne : b ≠ sb)
    (hc : ∀ i x, zs[i]? = some x → w.cell? ⟨b, i, none⟩ = some (.int .i64 x)) (p : Int → Prop) (hp : ∀ x ∈ zs, p x) :
    Calls Tryz.prog 80 #[.pointer (some ⟨sb, 0, none⟩), .slice (some ⟨b, 0, none⟩) zs.length cap] w (Dr w0 w sb cv code n 2 (fun v => ∃ x, v = .int .i64 x ∧ p x)) := by
  have H := Lib.hid h; have HN := Lib.hid hn
  clear h hn
  go_enter Tryz.func80, Tryz.ntmps80
  go_wp2_with fail
  refine (src_pick _ _ _ _ _ _ H.out HN.out zs.length (by omega) (by omega)).mono ?_
  rintro e w1 ⟨v, n1, rfl, ⟨x, rfl, x0, x1⟩, hn1, hs, hg⟩
  obtain ⟨i, rfl⟩ := Int.eq_ofNat_of_zero_le x0
  have hi : i < zs.length := by omega
  have hc1 : w1.cell? ⟨b, i, none⟩ = some (.int .i64 zs[i]) := by
    have := hc i zs[i] (by simp [hi])
    unfold World.cell? at this ⊢
    rw [hg.block b hb (fun e => hne (by injection e))]
    exact this
  have hpx := hp zs[i] (List.getElem_mem _)
  have H1 := Lib.hid hs; have G1 := Lib.hid hg; have HN1 := Lib.hid hn1
  have hcc : w1.cell? ⟨b, 0 + i, none⟩ = some (.int .i64 zs[i]) := by rw [Nat.zero_add]; exact hc1
  generalize zs[i] = z at *
  clear hs hg hn1 hc hp x0 hl hl2 hi
  have x0 : (0 : Int) ≤ (i : Int) := by omega
  go_wp2
  go_ret
  exact ⟨_, _, rfl, ⟨_, rfl, hpx⟩, HN1.out, H1.out, G1.out⟩

theorem src_plain (w0 w : World) (sb : Nat) (cv : Value) (code : List Int) (n : Nat) (h : Src w0 w sb cv code n) (hn : n + 4 ≤ 1000000) :
    Calls Tryz.prog 79 #[.pointer (some ⟨sb, 0, none⟩)] w (Dr w0 w sb cv code n 4 isF) := by
  have H := Lib.hid h; have HN := Lib.hid hn
  clear h hn
  go_enter Tryz.func79, Tryz.ntmps79
  go_wp2_with fail
  refine (src_pick _ _ _ _ _ _ H.out (by have := HN.out; omega) 129 (by decide) (by decide)).mono ?_
  rintro e w1 ⟨v, n1, rfl, ⟨x, rfl, x0, x1⟩, hn1, hs, hg⟩
  have H1 := Lib.hid hs; have G1 := Lib.hid hg; have HN1 := Lib.hid hn1
  clear hs hg hn1
  go_wp2_with fail
  refine (src_one _ _ _ _ _ _ H1.out (by have := HN.out; have := HN1.out; omega) 4 (by decide) (by decide)).mono ?_
  rintro e w2 ⟨v, n2, rfl, ⟨b, rfl⟩, hn2, hs, hg⟩
  have H2 := Lib.hid hs; have G2 := Lib.hid hg; have HN2 := Lib.hid hn2
  clear hs hg hn2
  cases b
  all_goals (go_wp2; go_ret; exact ⟨_, _, rfl, ⟨_, rfl, fa_lt .quo .f32 _ _ _⟩, by have := HN1.out; have := HN2.out; omega, H2.out.drewN _, (G1.out.trans G2.out).trans (zb_drewN _ _ _)⟩)

end Go.Proofs.YtcaceplnlfmejaaGreatDoor
