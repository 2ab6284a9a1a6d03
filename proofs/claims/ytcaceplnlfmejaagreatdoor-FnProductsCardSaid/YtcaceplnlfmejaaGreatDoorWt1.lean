/- Numbers in decimal: the reference's text of a number. -/
import Derived.Below
import Derived.WalkKit
import Derived.RowKit
import Derived.BigQuiet
import Derived.Lib.Hide
import Derived.Lib.ItoaNum
import Derived.Lib.ConvBytes
import Derived.Maps.AppendAt
import Derived.Laws.OwnMore
import Derived.LoopN
import Derived.Laws.BytesArg
import Derived.Test.YtcaceplnlfmejaaGreatDoorProg
namespace Go.Proofs.YtcaceplnlfmejaaGreatDoor
open Go.RowKit

theorem infoB8 : (Tryz.prog.info? 5).map (fun i => (i.zero, i.size, i.bytes)) = some (some (.int .u8 0), 1, 1) := by kernel_rfl
/-- The last j decimal digits of m. -/
def dgs (m : Nat) : Nat → List Int
  | 0 => []
  | j + 1 => ((48 + m / 10 ^ j % 10 : Nat) : Int) :: dgs m j
def lenS : Value → Nat
  | .slice _ n _ => n
  | _ => 0
theorem dgs_len (m : Nat) : ∀ j, (dgs m j).length = j
  | 0 => rfl
  | j + 1 => by rw [dgs, List.length_cons, dgs_len m j]

theorem own_one (w : World) (B : Nat) (c : Value) (h : B ≤ w.heap.size) : (w.alloc (.cells #[c] 5)).ownsRow B 5 1 (.slice (some ⟨w.heap.size, 0, none⟩) 1 1) 1 [c] :=
  ⟨rfl, .inr ⟨w.heap.size, 1, #[c], rfl, h, heap_alloc_new w _, Nat.le_refl _, by unfold maxLen; omega, rfl, rfl⟩⟩
/-- The list of bytes of a call's own slice, in whatever block. -/
def Bs (w : World) (B g cap j : Nat) (l : List Int) : Prop := w.ownsRow B 5 1 (.slice (some ⟨g, 0, none⟩) j cap) j (l.map (Value.int .u8))
theorem Bs.news {w : World} {B g cap j : Nat} {l : List Int} (h : Bs w B g cap j l) (o : Obj) : ∀ i u, (l.map (Value.int .u8))[i]? = some u → (w.alloc o).cell? ((⟨g, 0, none⟩ : Addr).add i) = some u := fun i u hu => by
  have hl := h.1
  have hi : i < (l.map (Value.int .u8)).length := (List.getElem?_eq_some_iff.1 hu).1
  have := (World.ownsRow.alloc h o).cellAt i (by omega)
  rw [Addr.add_lit, Nat.zero_add]
  exact this.trans hu
theorem div_step (m j : Nat) : m / 10 ^ j / 10 = m / 10 ^ (j + 1) := by rw [Nat.div_div_eq_div_mul, Nat.pow_succ]
theorem tmod_abs (x : Int) : (Int.tmod x 10).natAbs = x.natAbs % 10 := by rw [Int.natAbs_tmod]; rfl
theorem tdiv_abs (x : Int) : (Int.tdiv x 10).natAbs = x.natAbs / 10 := by rw [Int.natAbs_tdiv]; rfl
theorem tmod_pos {x : Int} (h : 0 ≤ x) : 0 ≤ Int.tmod x 10 := Int.tmod_nonneg _ h
theorem tdiv_pos {x : Int} (h : 0 ≤ x) : 0 ≤ Int.tdiv x 10 := Int.tdiv_nonneg h (by decide)
theorem tmod_neg {x : Int} (h : x ≤ 0) : Int.tmod x 10 ≤ 0 := by
  have := Int.tmod_nonneg 10 (show 0 ≤ -x by omega)
  rw [Int.neg_tmod] at this
  omega
theorem tdiv_neg {x : Int} (h : x ≤ 0) : Int.tdiv x 10 ≤ 0 := by
  have := Int.tdiv_nonneg (show 0 ≤ -x by omega) (show (0:Int) ≤ 10 by decide)
  rw [Int.neg_tdiv] at this
  omega

end Go.Proofs.YtcaceplnlfmejaaGreatDoor
