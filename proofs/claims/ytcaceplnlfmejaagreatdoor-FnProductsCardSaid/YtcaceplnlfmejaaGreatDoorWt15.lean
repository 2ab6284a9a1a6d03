/- ListText: the reference's text of a list. -/
import Derived.Test.YtcaceplnlfmejaaGreatDoorWt14
namespace Go.Proofs.YtcaceplnlfmejaaGreatDoor
open Go.RowKit
open Lib (itoa decDigits parseIntB)

def okZ (z : Int) : Bool := inB z (-1000000000000000) 1000000000000000
def okL (zs : List Int) : Bool := zs.all okZ && decide (zs.length ≤ 64)
/-- The text of the first k numbers. -/
def jn (zs : List Int) (k : Nat) : List UInt8 := Lib.join ((zs.map itoa).take k) [44]
def jnB (zs : List Int) (k : Nat) : ByteArray := ⟨(jn zs k).toArray⟩
def txB (zs : List Int) : ByteArray := if zs = [] then ⟨#[110, 111, 110, 101]⟩ else jnB zs zs.length
theorem okZ_len {z : Int} (h : okZ z = true) : (itoa z).length ≤ 17 := by
  simp [okZ, inB] at h
  exact (itoa_len z (by omega) (by omega)).2
theorem okL_at {zs : List Int} (h : zs.all okZ = true) {i : Nat} {x : Int} (hx : zs[i]? = some x) : okZ x = true := List.all_eq_true.1 h x (List.mem_of_getElem? hx)
theorem joinTail_append (sep x : List UInt8) (r : List (List UInt8)) : Lib.joinTail sep (r ++ [x]) = Lib.joinTail sep r ++ (sep ++ x) := by simp [Lib.joinTail]
theorem jn_one {zs : List Int} {x : Int} (h : zs[0]? = some x) : jn zs 1 = itoa x := by
  cases zs with
  | nil => simp at h
  | cons y r =>
    simp at h
    subst h
    simp [jn, Lib.join_one]
theorem jn_succ {zs : List Int} {x : Int} {k : Nat} (hk : 1 ≤ k) (h : zs[k]? = some x) : jn zs (k + 1) = jn zs k ++ (44 :: itoa x) := by
  cases zs with
  | nil => simp at h
  | cons y r =>
    obtain ⟨j, rfl⟩ : ∃ j, k = j + 1 := ⟨k - 1, by omega⟩
    simp at h
    have e : (r.map itoa).take (j + 1) = (r.map itoa).take j ++ [itoa x] := by
      rw [List.take_add_one]
      simp [h]
    simp only [jn, List.map_cons, List.take_succ_cons, Lib.join_cons, e, joinTail_append]
    simp
theorem jn_len {zs : List Int} (h : zs.all okZ = true) : ∀ k, 1 ≤ k → k ≤ zs.length → (jn zs k).length ≤ 18 * k
  | 0, h1, _ => by omega
  | 1, _, h2 => by
    obtain ⟨x, hx⟩ := at_of_lt (show 0 < zs.length by omega)
    rw [jn_one hx]
    have := okZ_len (okL_at h hx)
    omega
  | k + 2, _, h2 => by
    obtain ⟨x, hx⟩ := at_of_lt (show k + 1 < zs.length by omega)
    rw [jn_succ (by omega) hx]
    have := okZ_len (okL_at h hx)
    have := jn_len h (k + 1) (by omega) (by omega)
    simp; omega
theorem all_at (zs : List Int) (h : ∀ (i : Nat) x, zs[i]? = some x → okZ x = true) : zs.all okZ = true := by
  rw [List.all_eq_true]
  intro x hx
  obtain ⟨i, hi⟩ := List.getElem?_of_mem hx
  exact h i x hi
theorem not_all {zs : List Int} {i : Nat} {x : Int} (hx : zs[i]? = some x) (h : okZ x = false) : zs.all okZ = false := by
  cases e : zs.all okZ with
  | false => rfl
  | true => have := okL_at e hx; rw [h] at this; exact this.symm



end Go.Proofs.YtcaceplnlfmejaaGreatDoor
