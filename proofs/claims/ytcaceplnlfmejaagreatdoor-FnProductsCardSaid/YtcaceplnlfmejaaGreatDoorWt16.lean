/- ListText: the program's text of a list; the law. -/
import Derived.Test.YtcaceplnlfmejaaGreatDoorWt15
import Derived.Test.YtcaceplnlfmejaaGreatDoorSjoin
namespace Go.Proofs.YtcaceplnlfmejaaGreatDoor
open Go.RowKit
open Lib (itoa decDigits parseIntB)

abbrev fS : ByteArray → Value := Value.string
theorem infoS : (Tryz.prog.info? 9).map (fun i => (i.zero, i.size, i.bytes)) = some (some (.string ⟨#[]⟩), 1, 16) := by kernel_rfl
def joinB (xs : List ByteArray) : ByteArray := if xs = [] then ⟨#[110, 111, 110, 101]⟩ else ⟨(Lib.join (xs.map (·.data.toList)) [44]).toArray⟩
def itB (z : Int) : ByteArray := ⟨(itoa z).toArray⟩
theorem joinB_it (zs : List Int) : joinB (zs.map itB) = txB zs := by
  unfold joinB txB
  by_cases h : zs = []
  · simp [h]
  · rw [if_neg h, if_neg (by simpa using h), jnB, jn, List.take_of_length_le (by simp), List.map_map]
    congr 2
theorem OwnX.parts {α : Type} {f : α → Value} {T : TypeId} {w : World} {B : Nat} {v : Value} {zs : List α} (h : OwnX f T w B v zs) (hn : 0 < zs.length) : ∃ g cap, v = .slice (some ⟨g, 0, none⟩) zs.length cap ∧ zs.length ≤ cap ∧ g < w.heap.size ∧ ∀ (i : Nat) x, zs[i]? = some x → w.cell? ⟨g, 0 + i, none⟩ = some (f x) := by
  have h' := h
  rcases h.2 with ⟨rfl, hn'⟩ | ⟨g, cap, cur, rfl, hB, hg, hnc, hcm, _⟩
  · omega
  · have hlt : g < w.heap.size := by
      rcases Nat.lt_or_ge g w.heap.size with q | q
      · exact q
      · rw [Array.getElem?_eq_none q] at hg; cases hg
    refine ⟨g, cap, rfl, hnc, hlt, fun i x hi => ?_⟩
    have := World.ownsRow.cellAt h' i (by have := (List.getElem?_eq_some_iff.1 hi).1; omega)
    rw [Nat.zero_add, this, List.getElem?_map, hi]; rfl
theorem OwnX.shape {α : Type} {f : α → Value} {T : TypeId} {w : World} {B : Nat} {v : Value} {zs : List α} (h : OwnX f T w B v zs) : ∃ a cap, v = .slice a zs.length cap := by
  rcases h.2 with ⟨rfl, hn'⟩ | ⟨g, cap, cur, rfl, hB, hg, hnc, hcm, _⟩
  · exact ⟨none, 0, by rw [hn']⟩
  · exact ⟨_, cap, rfl⟩
theorem cell_new4 (w : World) (v : Value) (T : TypeId) : (w.alloc (.cells #[v] T)).cell? ⟨w.heap.size, 0, none⟩ = some v := by
  rw [World.cell?_alloc_new]; rfl

theorem news4 (w : World) (v : Value) (T : TypeId) : ∀ (j : Nat) u, [v][j]? = some u → (w.alloc (.cells #[v] T)).cell? ((⟨w.heap.size, 0, none⟩ : Addr).add j) = some u := fun j u hu => by
  cases j with
  | zero => simp at hu; subst hu; simp [Addr.add]
  | succ j => simp at hu
def ltV (zs : List Int) : Value := .tuple #[.string (if okL zs then txB zs else ⟨#[]⟩), .bool (okL zs)]
theorem ltV_no (zs : List Int) (h : okL zs = false) : ltV zs = .tuple #[.string ⟨#[]⟩, .bool false] := by rw [ltV, h]; rfl
theorem ltV_yes (zs : List Int) (h : okL zs = true) : ltV zs = .tuple #[.string (txB zs), .bool true] := by rw [ltV, h]; rfl

theorem impl_listOrNone (w : World) (B : Nat) (v : Value) (xs : List ByteArray) (h : OwnX fS 9 w B v xs) (hn : xs.length ≤ 65536) (hlen : (Lib.join (xs.map (·.data.toList)) [44]).length ≤ 140737488355328) :
    Calls Tryz.prog 47 #[v] w (fun e w' => e = .returned (.string (joinB xs)) ∧ Below w.heap.size w w') := by
  by_cases h0 : xs.length = 0
  · have HR : Hid (joinB xs = ⟨#[110, 111, 110, 101]⟩) := Lib.hid (by rw [joinB, if_pos (List.eq_nil_of_length_eq_zero h0)])
    obtain ⟨a, cap, rfl⟩ := h.shape
    clear h hlen
    go_enter Tryz.func47, Tryz.ntmps47
    go_wp2
    go_ret
    exact ⟨by rw [HR.out]; first | done | rfl, Below.refl _ _⟩
  · have HR : Hid (joinB xs = ⟨(Lib.join (xs.map (·.data.toList)) [44]).toArray⟩) := Lib.hid (by rw [joinB, if_neg (fun q => h0 (by rw [q]; rfl))])
    obtain ⟨g, cap, rfl, hc, hg, hcell⟩ := h.parts (by omega)
    have HJ := Lib.hid (Tryz.strings_Join g 0 cap xs ⟨#[44]⟩ w (fun j x hx => by simpa using hcell j x hx) hg (by omega) hc hlen)
    clear h hlen hcell hg hc
    go_enter Tryz.func47, Tryz.ntmps47
    go_wp2_with fail
    refine HJ.out.mono ?_
    rintro e w1 ⟨rfl, hb⟩
    have HB := Lib.hid hb
    clear hb HJ
    go_wp2
    go_ret
    exact ⟨by rw [HR.out]; first | done | rfl, HB.out⟩


end Go.Proofs.YtcaceplnlfmejaaGreatDoor
