/- A struct of three slices of numbers among the arguments, opened. -/
import Derived.Test.YtdkgdinbglkjcaaFs
import Derived.Test.YtdkgdinbglkjcaaWk9
import Derived.Lib.SmallJoins
namespace Go.Proofs.Ytdkgdinbglkjcaa
open Fl Go.ChangeShapes Go.WideShapes Go.ChangeAt Go.RowKit Go.Deep

theorem floats_trod {H : Type} {enc : TypeId × Value → H} {P : Program} {W : World} {t e : TypeId} {n : Nat} {v : Value} {x : DataW H × List MemPlace}
    (ht : P.underlying t = some (.slice e)) (he : P.underlying e = some (.float .f32)) (hc : P.cellsOf e = 1) (h : DataW.trod enc P W 0 (fun _ => true) true n t [v] = some x) :
    ∃ zs, FS W v zs ∧ Ws zs := by
  obtain ⟨a, len, cap, hv⟩ := Go.Joins.slice_form ht h
  simp at hv
  subst hv
  obtain ⟨zs, h1, h2⟩ := floats_of (a := a) (len := len) (cap := cap) (d := x.1) (p := x.2) ht he hc ⟨n, by simpa [Value.cells] using h⟩
  refine ⟨zs, h1, fun i => ?_⟩
  rcases Nat.lt_or_ge i zs.length with q | q
  · rw [getD_lt q]; exact h2 _ (List.getElem_mem q)
  · rw [show zs.getD i 0 = 0 by simp [List.getD, q]]; unfold W32; omega

theorem open_prof {H : Type} {enc : TypeId × Value → H} {P : Program} {W : World} {base : Nat} {t u e : TypeId} {f0 f1 f2 : Field} {v : Value} {d : DataW H} {p : List MemPlace}
    (hs : P.underlying t = some (.struct #[f0, f1, f2])) (hone : oneCellFields P #[f0, f1, f2] = true) (hC : P.cellsOf t = 3) (e0 : f0.type = u) (e1 : f1.type = u) (e2 : f2.type = u)
    (ht : P.underlying u = some (.slice e)) (he : P.underlying e = some (.float .f32)) (hc : P.cellsOf e = 1) (hval : Value.okWide P W .any base t v) (h : DataW.Trod enc P W 0 (fun _ => true) true t v d p) :
    ∃ A L D, PS W v A L D ∧ WsP A L D := by
  obtain ⟨v0, v1, v2, y0, y1, y2, n, rfl, _, _, h0, h1, h2⟩ := Go.Joins.open_agg3 hs hone hC hval h
  rw [e0] at h0; rw [e1] at h1; rw [e2] at h2
  obtain ⟨A, fa, wa⟩ := floats_trod ht he hc h0
  obtain ⟨L, fl, wl⟩ := floats_trod ht he hc h1
  obtain ⟨D, fd, wd⟩ := floats_trod ht he hc h2
  exact ⟨A, L, D, ⟨v0, v1, v2, rfl, fa, fl, fd⟩, wa, wl, wd⟩

end Go.Proofs.Ytdkgdinbglkjcaa
