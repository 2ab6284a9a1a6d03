/- What the rows' conditions give: the library's two errors. -/
import Derived.Test.YtcaceplnlfmejaaDoorWt4
import Derived.Test.YtcaceplnlfmejaaDoorWt11
import Derived.LaidLaws
namespace Go.Proofs.YtcaceplnlfmejaaDoor
open Go.ChangeShapes Go.WideShapes Go.ChangeAt Go.RowKit

theorem iface_cell {P : Program} {W : World} {n nm : String} {D : DataW Unit} {g : Nat} {ti : TypeId} {ms : Array (String × TypeId)} (hg : P.globalNamed n = some g) (ht : (P.globals[g]?).map (·.type) = some ti) (hi : P.underlying ti = some (.interface ms)) (h : Lib.VarReads P W n (.iface nm D)) : ∃ u v, W.cell? ⟨g, 0, none⟩ = some (.iface u v) := by
  obtain ⟨g', t, cs, fuel, p, hg', hty, hvar, hd⟩ := h
  obtain rfl := Option.some.inj (hg.symm.trans hg')
  obtain rfl := Option.some.inj (ht.symm.trans hty)
  obtain ⟨f1, u, v, hcs, hn, h1⟩ := iface_of_trod hi hd
  refine ⟨u, v, ?_⟩
  have := World.var?_cell hg hvar 0
  obtain ⟨l⟩ := cs
  simp only at hcs
  subst hcs
  simpa using this
theorem cell_lt {W : World} {k : Nat} {v : Value} (h : W.cell? ⟨k, 0, none⟩ = some v) : k < W.heap.size := by
  rcases Nat.lt_or_ge k W.heap.size with q | q
  · exact q
  · unfold World.cell? at h
    simp [Array.getElem?_eq_none q] at h
theorem errs_mk {W : World} (h1 : Lib.VarReads Tryd.prog W "strconv.ErrRange" Rows.laid_strconv_ErrRange) (h2 : Lib.VarReads Tryd.prog W "strconv.ErrSyntax" Rows.laid_strconv_ErrSyntax) : Errs W := by
  have e1 : ∃ u v, W.cell? ⟨3, 0, none⟩ = some (.iface u v) := iface_cell (by kernel_rfl) (by kernel_rfl) Tryd.underlying60 h1
  have e2 : ∃ u v, W.cell? ⟨2, 0, none⟩ = some (.iface u v) := iface_cell (by kernel_rfl) (by kernel_rfl) Tryd.underlying60 h2
  refine ⟨e2, e1, ?_⟩
  obtain ⟨_, _, e1⟩ := e1
  exact cell_lt e1

end Go.Proofs.YtcaceplnlfmejaaDoor
