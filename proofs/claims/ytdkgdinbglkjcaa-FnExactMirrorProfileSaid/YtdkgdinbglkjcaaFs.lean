/- A slice of numbers among the arguments, opened. -/
import Derived.Test.YtdkgdinbglkjcaaFr
import Derived.Test.YtdkgdinbglkjcaaWk3
import Derived.Deep.Slices
namespace Go.Proofs.Ytdkgdinbglkjcaa
open Fl Go.ChangeShapes Go.WideShapes Go.ChangeAt Go.RowKit Go.Deep

theorem trod_float {H : Type} {enc : TypeId × Value → H} {P : Program} {w : World} {base : Nat} {spare : Nat → Bool} {held : Bool} {n : Nat} {e : TypeId} {k : FloatKind} {v : Value} {x : DataW H × List MemPlace}
    (he : P.underlying e = some (.float k)) (h : DataW.trod enc P w base spare held n e [v] = some x) : ∃ b, v = .float k b ∧ x = (.lit (.float k b), []) ∧ (Lit.float k b).wf = true := by
  cases n with
  | zero => simp [DataW.trod] at h
  | succ n =>
    cases v with
    | float k' b =>
      simp only [DataW.trod, he] at h
      by_cases hk : k' = k
      · subst hk
        by_cases hw : (Lit.float k' b).wf = true
        · simp [hw] at h; exact ⟨b, rfl, h.symm, hw⟩
        · simp [hw] at h
      · cases k <;> cases k' <;> first | exact absurd rfl hk | simp at h
    | _ => simp [DataW.trod, he] at h

theorem floats_of {H : Type} {enc : TypeId × Value → H} {P : Program} {W : World} {t e : TypeId} {a : Option Addr} {len cap : Nat} {d : DataW H} {p : List MemPlace}
    (ht : P.underlying t = some (.slice e)) (he : P.underlying e = some (.float .f32)) (hc : P.cellsOf e = 1) (h : DataW.Trod enc P W 0 (fun _ => true) true t (.slice a len cap) d p) :
    ∃ zs, FS W (.slice a len cap) zs ∧ ∀ z ∈ zs, W32 z := by
  obtain ⟨fuel, hf⟩ := h
  rcases open_slice1 ht hc hf with ⟨hcs, _⟩ | ⟨ad, len', cap', m, n, V, D, Pl, hcs, _, hl, hm, hmm, _, hx⟩
  · simp [Value.cells] at hcs
    obtain ⟨rfl, rfl, rfl⟩ := hcs
    exact ⟨[], ⟨none, 0, 0, rfl, rfl, Nat.zero_le _, .inl rfl⟩, by simp⟩
  · simp [Value.cells] at hcs
    obtain ⟨rfl, rfl, rfl⟩ := hcs
    have hlm : len ≤ m := by rw [hmm]; simpa using hl
    have hB : ∀ i, i < len → ∃ b, V i = .float .f32 b ∧ W32 b := fun i hi => by
      obtain ⟨b, e1, _, e3⟩ := trod_float he (hx i (by omega)).2
      exact ⟨b, e1, wf32 e3⟩
    let B : Nat → Nat := fun i => if hi : i < len then (hB i hi).choose else 0
    have hBs : ∀ i, i < len → V i = .float .f32 (B i) ∧ W32 (B i) := fun i hi => by
      have := (hB i hi).choose_spec
      simp only [B, hi, dif_pos]
      exact this
    refine ⟨(List.range len).map B, ⟨_, _, _, rfl, by simp, Nat.le_trans hl hm, ?_⟩, ?_⟩
    · by_cases h0 : len = 0
      · exact .inl h0
      · right
        obtain ⟨b, off, spot⟩ := ad
        have hc0 := (hx 0 (by omega)).1
        have hspot : spot = none := by simpa [Addr.add] using World.cell?_spot hc0
        subst hspot
        have hlt : b < W.heap.size := by
          rcases Nat.lt_or_ge b W.heap.size with q | q
          · exact q
          · have hc1 : W.cell? ⟨b, off, none⟩ = some (V 0) := by simpa [Addr.add] using hc0
            simp only [World.cell?, Array.getElem?_eq_none q] at hc1
            cases hc1
        refine ⟨b, off, rfl, hlt, fun i hi => ?_⟩
        have h1 := (hx i (by omega)).1
        rw [(hBs i hi).1] at h1
        have e : ((List.range len).map B).getD i 0 = B i := by simp [List.getD, hi]
        rw [e]
        by_cases hi0 : i = 0
        · subst hi0; simpa [Addr.add] using h1
        · simpa [Addr.add, hi0] using h1
    · intro z hz
      rw [List.mem_map] at hz
      obtain ⟨i, hi, rfl⟩ := hz
      exact (hBs i (by simpa using hi)).2

theorem open_floats {H : Type} {enc : TypeId × Value → H} {P : Program} {W : World} {base : Nat} {t e : TypeId} {v : Value} {d : DataW H} {p : List MemPlace}
    (ht : P.underlying t = some (.slice e)) (he : P.underlying e = some (.float .f32)) (hc : P.cellsOf e = 1) (hval : Value.okWide P W .any base t v) (h : DataW.Trod enc P W 0 (fun _ => true) true t v d p) :
    ∃ zs, FS W v zs ∧ ∀ z ∈ zs, W32 z := by
  obtain ⟨a, len, cap, rfl⟩ := okWide_slice ht hval
  exact floats_of ht he hc h

end Go.Proofs.Ytdkgdinbglkjcaa
