/- A slice of bytes, read. -/
import Derived.Test.YtjpbimfnppmbcaaWk4
import Derived.Deep.QuietTactic
namespace Go.Proofs.Ytjpbimfnppmbcaa
open Fl Go.RowKit

def XS {α : Type} (f : α → Value) (w : World) (v : Value) (zs : List α) : Prop :=
  ∃ (a : Option Addr) (len cap : Nat), v = .slice a len cap ∧ zs.length = len ∧ len ≤ maxLen ∧
    (len = 0 ∨ ∃ b off, a = some ⟨b, off, none⟩ ∧ b < w.heap.size ∧ ∀ i x, zs[i]? = some x → w.cell? ⟨b, off + i, none⟩ = some (f x))
theorem XS.later {α : Type} {f : α → Value} {w w' : World} {v : Value} {zs : List α} (h : XS f w v zs) (hb : Below w.heap.size w w') : XS f w' v zs := by
  obtain ⟨a, len, cap, rfl, hl, hm, h⟩ := h
  refine ⟨a, len, cap, rfl, hl, hm, ?_⟩
  rcases h with h | ⟨b, off, rfl, hlt, hc⟩
  · exact .inl h
  · exact .inr ⟨b, off, rfl, Nat.lt_of_lt_of_le hlt hb.size, fun i x hi => (hb.cell (p := ⟨b, off + i, none⟩) hlt).trans (hc i x hi)⟩
theorem XS.at {α : Type} {f : α → Value} {w : World} {a : Option Addr} {len cap : Nat} {zs : List α} (h : XS f w (.slice a len cap) zs) : len = zs.length ∧ len ≤ maxLen ∧
    Hid (∀ i x, zs[i]? = some x → ∃ b off, a = some ⟨b, off, none⟩ ∧ b < w.heap.size ∧ w.cell? ⟨b, off + i, none⟩ = some (f x)) := by
  obtain ⟨a', len', cap', ev, hl, hm, h⟩ := h
  simp only [Value.slice.injEq] at ev
  obtain ⟨rfl, rfl, rfl⟩ := ev
  refine ⟨hl.symm, hm, Lib.hid fun i x hi => ?_⟩
  rcases h with h | ⟨b, off, rfl, hb, hc⟩
  · have := (List.getElem?_eq_some_iff.1 hi).1; omega
  · exact ⟨b, off, rfl, hb, hc i x hi⟩
theorem XS.shape {α : Type} {f : α → Value} {w : World} {v : Value} {zs : List α} (h : XS f w v zs) : ∃ a len cap, v = .slice a len cap := by
  obtain ⟨a, len, cap, e, _⟩ := h; exact ⟨a, len, cap, e⟩
def fB : Int → Value := Value.int .u8
structure BS (w : World) (v : Value) (code : List Int) : Prop where
  sl : XS fB w v code
  by' : ∀ z ∈ code, 0 ≤ z ∧ z ≤ 255
theorem BS.later {w w' : World} {v : Value} {code : List Int} (h : BS w v code) (hb : Below w.heap.size w w') : BS w' v code := ⟨h.sl.later hb, h.by'⟩

theorem laws_b10Long (w : World) (a1 a2 : Option Addr) (l1 l2 c1 c2 : Nat) : Calls Try.prog 33 #[.slice a1 l1 c1, .slice a2 l2 c2] w (Ret (.bool (decide (1048576 < (l1 : Int)) || decide (1048576 < (l2 : Int)))) w) := by
  by_cases h1 : 1048576 < (l1 : Int)
  · rw [decide_eq_true h1]
    go_enter Try.func33, Try.ntmps33
    go_wp2
    go_ret
    exact .mk' 0 rfl rfl
  · rw [decide_eq_false h1]
    by_cases h2 : 1048576 < (l2 : Int)
    · rw [decide_eq_true h2]
      go_enter Try.func33, Try.ntmps33
      go_wp2
      go_ret
      exact .mk' 0 rfl rfl
    · rw [decide_eq_false h2]
      go_enter Try.func33, Try.ntmps33
      go_wp2
      go_ret
      exact .mk' 0 rfl rfl

theorem laws_b10At (w : World) (v : Value) (code : List Int) (h : BS w v code) (i : Nat) (hi : i ≤ 100) (n : Nat) (hn : 2 ≤ n) (hn2 : n ≤ 1000) :
    Calls Try.prog 34 #[v, .int .i64 (i : Int), .int .i64 (n : Int)] w (fun e w' => ∃ x : Nat, e = .returned (.int .i64 (x : Int)) ∧ x < n ∧ w' = w) := by
  obtain ⟨a, len, cap, rfl⟩ := h.sl.shape
  obtain ⟨rfl, hm, HC⟩ := h.sl.at
  have HB := Lib.hid h.by'
  clear h hm
  have hn1 : ¬ (n : Int) ≤ 1 := by omega
  have hi' : (i : Int) ≤ 100 := by omega
  have hn2' : (n : Int) ≤ 1000 := by omega
  have hn3 : (2 : Int) ≤ (n : Int) := by omega
  by_cases hlt : i < code.length
  · have hlt' : (i : Int) < code.length := by omega
    obtain ⟨b, off, rfl, hb, hcx⟩ := HC.out i code[i] (by simp [hlt])
    obtain ⟨x0, x1⟩ := HB.out code[i] (List.getElem_mem _)
    have hcx' : w.cell? ⟨b, off + i, none⟩ = some (.int .u8 code[i]) := hcx
    generalize code[i] = x at *
    have hwx : IntKind.i64.wrap x = x := by rw [IntKind.wrap_i64]; omega
    clear HB HC hcx
    go_enter Try.func34, Try.ntmps34
    go_wp2
    go_ret
    exact ⟨(x % n).toNat, by rw [Int.toNat_of_nonneg (Int.emod_nonneg _ (by omega))]; rfl, by have := Int.emod_lt_of_pos x (show (0 : Int) < n by omega); have := Int.emod_nonneg x (show (n : Int) ≠ 0 by omega); omega, rfl⟩
  · have hlt' : ¬ (i : Int) < code.length := by omega
    clear HB HC
    go_enter Try.func34, Try.ntmps34
    go_wp2
    go_ret
    exact ⟨(((i : Int) * 37 + 11) % n).toNat, by rw [Int.toNat_of_nonneg (Int.emod_nonneg _ (by omega))]; rfl, by have := Int.emod_lt_of_pos ((i : Int) * 37 + 11) (show (0 : Int) < n by omega); have := Int.emod_nonneg ((i : Int) * 37 + 11) (show (n : Int) ≠ 0 by omega); omega, rfl⟩

end Go.Proofs.Ytjpbimfnppmbcaa
