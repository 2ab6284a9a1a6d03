/- A slice of bytes among the arguments, opened. -/
import Derived.Test.YtjpbimfnppmbcaaRows
import Derived.Test.YtjpbimfnppmbcaaNcl
import Derived.ProofKit
import Derived.Lib.LaidU8
import Derived.LaidMore
import Derived.OpenShut
import Derived.Stop.Joined
import Derived.SevenTiedAt
import Derived.LaidLaws
import Derived.ChangeSlices
import Derived.ShutString
import Derived.Deep.Slices
import Derived.Lay
import Derived.Shelf.Vars
namespace Go.Proofs.Ytjpbimfnppmbcaa
open Go.ChangeShapes Go.WideShapes Go.ChangeAt Go.RowKit Go.Deep

theorem wfu8 {n : Int} (h : (Lit.int .u8 n).wf = true) : 0 ≤ n ∧ n ≤ 255 := by
  simp [Lit.wf, IntKind.min, IntKind.max, IntKind.bits, IntKind.signed] at h
  exact ⟨by omega, by omega⟩
theorem open_bytes {H : Type} {enc : TypeId × Value → H} {P : Program} {W : World} {base : Nat} {t e : TypeId} {v : Value} {d : DataW H} {p : List MemPlace}
    (ht : P.underlying t = some (.slice e)) (he : P.underlying e = some (.int .u8)) (hc : P.cellsOf e = 1) (hval : Value.okWide P W .any base t v) (h : DataW.Trod enc P W 0 (fun _ => true) true t v d p) :
    ∃ zs, BS W v zs := by
  obtain ⟨a, len, cap, rfl⟩ := okWide_slice ht hval
  obtain ⟨fuel, hf⟩ := h
  rcases open_ints ht he hc hf with ⟨hcs, _⟩ | ⟨ad, len', cap', zs, hcs, _, hl, hm, hz, _, hcell, hwf⟩
  · simp [Value.cells] at hcs
    obtain ⟨rfl, rfl, rfl⟩ := hcs
    exact ⟨[], ⟨⟨none, 0, 0, rfl, rfl, Nat.zero_le _, .inl rfl⟩, by simp⟩⟩
  · simp [Value.cells] at hcs
    obtain ⟨rfl, rfl, rfl⟩ := hcs
    have hz' : zs.length = cap := by simpa using hz
    refine ⟨zs.take len, ⟨⟨_, _, _, rfl, by simp; omega, Nat.le_trans hl hm, ?_⟩, fun z hz => wfu8 (hwf z (List.mem_of_mem_take hz))⟩⟩
    by_cases h0 : len = 0
    · exact .inl h0
    · right
      obtain ⟨b, off, spot⟩ := ad
      have hc0 := hcell 0 (by omega)
      have hspot : spot = none := by simpa [Addr.add] using World.cell?_spot hc0
      subst hspot
      have hlt : b < W.heap.size := by
        rcases Nat.lt_or_ge b W.heap.size with q | q
        · exact q
        · have hc1 : W.cell? ⟨b, off, none⟩ = some (.int .u8 (zs.getD 0 0)) := by simpa [Addr.add] using hc0
          simp only [World.cell?, Array.getElem?_eq_none q] at hc1
          cases hc1
      refine ⟨b, off, rfl, hlt, fun i x hi => ?_⟩
      have hil : i < len := by have := (List.getElem?_eq_some_iff.1 hi).1; simp at this; omega
      have h1 := hcell i (by omega)
      have e : zs.getD i 0 = x := by
        rw [List.getElem?_take, if_pos hil] at hi
        simp [List.getD, hi]
      rw [e] at h1
      by_cases hi0 : i = 0
      · subst hi0; simpa [Addr.add, fB] using h1
      · simpa [Addr.add, hi0, fB] using h1

end Go.Proofs.Ytjpbimfnppmbcaa
