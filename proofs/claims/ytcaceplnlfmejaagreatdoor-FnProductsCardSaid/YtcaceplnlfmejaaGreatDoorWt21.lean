/- ReadList: the walks of the reference and of the program. -/
import Derived.Test.YtcaceplnlfmejaaGreatDoorWt20
import Derived.Test.YtcaceplnlfmejaaGreatDoorSsplit
namespace Go.Proofs.YtcaceplnlfmejaaGreatDoor
open Go.RowKit
open Lib (itoa decDigits parseIntB)

def MaxL (w : World) : Prop := (∃ m, w.cell? ⟨4, 0, none⟩ = some (.int .i64 m)) ∧ 4 < w.heap.size
theorem MaxL.later {w w' : World} (h : MaxL w) (hb : Below w.heap.size w w') : MaxL w' := by
  obtain ⟨⟨m, hm⟩, hl⟩ := h
  exact ⟨⟨m, (hb.cell (p := ⟨4, 0, none⟩) hl).trans hm⟩, Nat.lt_of_lt_of_le hl hb.size⟩
def nonB : ByteArray := ⟨#[110, 111, 110, 101]⟩
def wordsB (s : ByteArray) : List ByteArray := if s = nonB then [] else partsB s
theorem non_ne {s : ByteArray} (h : s ≠ nonB) : (s.toList == [110, 111, 110, 101]) = false := by
  have := str_ne h
  rwa [show nonB.toList = [110, 111, 110, 101] by rw [Lib.toList_data]; rfl] at this
theorem non_eq {s : ByteArray} (h : s = nonB) : (s.toList == [110, 111, 110, 101]) = true := by
  rw [h, Lib.toList_data]; rfl
theorem wordsB_none : wordsB nonB = [] := by rw [wordsB, if_pos rfl]
theorem wordsB_else {s : ByteArray} (h : s ≠ nonB) : wordsB s = partsB s := by rw [wordsB, if_neg h]

theorem split_call (w : World) (s : ByteArray) (hs : s.size ≤ 1048576) (hm : MaxL w) :
    Calls Tryz.prog 77 #[.string s, .string ⟨#[44]⟩] w (fun e w' => ∃ a cap, e = .returned (.slice (some a) (partsB s).length cap) ∧ OwnX fS 9 w' w.heap.size (.slice (some a) (partsB s).length cap) (partsB s) ∧ Below w.heap.size w w') := by
  obtain ⟨⟨m, hm⟩, _⟩ := hm
  refine (Tryz.strings_Split s ⟨#[44]⟩ m w (by omega) hm (by decide)).mono ?_
  rintro e w' ⟨rfl, rfl⟩
  have hl := parts_len s
  rw [parts_count, split_parts]
  exact ⟨_, _, rfl, ⟨by simp, .inr ⟨w.heap.size, _, _, rfl, Nat.le_refl _, heap_alloc_new w _, Nat.le_refl _, by unfold maxLen; omega, by simp, by simp [List.take_of_length_le]⟩⟩, (Below.refl _ _).alloc (Nat.le_refl _) _⟩

theorem impl_partsOrNone (w : World) (s : ByteArray) (hs : s.size ≤ 1048576) (hm : MaxL w) :
    Calls Tryz.prog 48 #[.string s] w (fun e w' => ∃ a cap, e = .returned (.slice a (wordsB s).length cap) ∧ OwnX fS 9 w' w.heap.size (.slice a (wordsB s).length cap) (wordsB s) ∧ Below w.heap.size w w') := by
  have HS := Lib.hid (split_call w s hs hm)
  clear hm
  by_cases h : s = nonB
  · have hne := non_eq h
    rw [show wordsB s = [] by rw [h, wordsB_none]]
    clear HS h
    go_enter Tryz.func48, Tryz.ntmps48
    go_wp2
    go_ret
    exact ⟨none, 0, rfl, ⟨rfl, .inl ⟨rfl, rfl⟩⟩, Below.refl _ _⟩
  · have hne := non_ne h
    rw [wordsB_else h]
    clear h
    go_enter Tryz.func48, Tryz.ntmps48
    go_wp2_with fail
    refine HS.out.mono ?_
    rintro e w1 ⟨a, cap, rfl, hx, hb⟩
    have HX := Lib.hid hx; have HB := Lib.hid hb
    clear hx hb
    go_wp2
    go_ret
    exact ⟨_, _, rfl, HX.out, HB.out⟩

theorem pcs_mem (c : UInt8) : ∀ (r acc : List UInt8) x, x ∈ pcs c acc r → x.length ≤ acc.length + r.length
  | [], acc, x, h => by simp [pcs] at h; subst h; simp
  | b :: r, acc, x, h => by
    rw [pcs] at h
    split at h
    · rcases List.mem_cons.1 h with rfl | h
      · simp
      · have := pcs_mem c r [] x h; simp at this ⊢; omega
    · have := pcs_mem c r _ x h; simp at this ⊢; omega
theorem words_size {s x : ByteArray} {k : Nat} (h : (wordsB s)[k]? = some x) : x.size ≤ s.size := by
  have hm := List.mem_of_getElem? h
  unfold wordsB at hm
  split at hm
  · cases hm
  · unfold partsB at hm
    obtain ⟨l, hl, rfl⟩ := List.mem_map.1 hm
    have := pcs_mem 44 _ _ l hl
    have e : (ofL l).size = l.length := by simp [ofL, ByteArray.size]
    have e2 : s.data.toList.length = s.size := by simp
    simp only [List.length_nil] at this
    omega
theorem own_lt {α : Type} {f : α → Value} {T : TypeId} {w : World} {B : Nat} {v : Value} {zs : List α} (h : OwnX f T w B v zs) {g : Nat} (hg : v.ownBlock = some g) : B ≤ g ∧ g < w.heap.size := by
  rcases h.2 with ⟨rfl, _⟩ | ⟨g', cap, cur, rfl, hB, hh, _⟩
  · simp [Value.ownBlock] at hg
  · simp [Value.ownBlock] at hg
    subst hg
    refine ⟨hB, ?_⟩
    rcases Nat.lt_or_ge g' w.heap.size with q | q
    · exact q
    · rw [Array.getElem?_eq_none q] at hh; cases hh
theorem own_push2 {α : Type} {f : α → Value} {T : TypeId} {w : World} {B n : Nat} {v : Value} {done : List α} {x : α} (hn : n = done.length + 1) (ho : w.ownsRow B T 1 v n (done.map f ++ [f x])) :
    ∃ g c, v = .slice (some ⟨g, 0, none⟩) n c ∧ OwnX f T w B (.slice (some ⟨g, 0, none⟩) n c) (done ++ [x]) := by
  subst hn
  obtain ⟨g, c, h1, h2⟩ := own_push ho
  have e : (done ++ [x]).length = done.length + 1 := by simp
  rw [e] at h1 h2
  exact ⟨g, c, h1, h2⟩
theorem push_keep {α : Type} {f : α → Value} {T : TypeId} {wr w3 : World} {o : Obj} {B g k c : Nat} {v : Value} {zs : List α} (h : OwnX f T wr B v zs) (hne : v.ownBlock ≠ some g) (hg : (wr.alloc o).grownBy w3 (Value.slice (some ⟨g, 0, none⟩) k c).ownBlock) : OwnX f T w3 B v zs :=
  (World.ownsRow.alloc h o).kept hg (.inr hne)
theorem push_ne {α : Type} {f : α → Value} {T : TypeId} {wr : World} {B g k c g1 k1 c1 : Nat} {v : Value} {zs : List α} (h : OwnX f T wr B v zs) (hne : v.ownBlock ≠ some g)
    (hat : (Value.slice (some ⟨g1, 0, none⟩) k1 c1).ownBlock = (Value.slice (some ⟨g, 0, none⟩) k c).ownBlock ∨ (Value.slice (some ⟨g1, 0, none⟩) k1 c1).ownBlock = some (wr.heap.size + 1)) : v.ownBlock ≠ some g1 := by
  intro hc
  have hl := (own_lt h hc).2
  rcases hat with q | q
  · simp [Value.ownBlock] at q; subst q; exact hne hc
  · simp [Value.ownBlock] at q; omega

def someR (x : ByteArray) : Bool := (rd x).isSome
def rlOk (s : ByteArray) : Bool := (wordsB s).all someR && decide ((wordsB s).length ≤ 64)
def rlL (s : ByteArray) : List Int := if rlOk s then (wordsB s).filterMap rd else []
theorem rlL_no {s : ByteArray} (h : rlOk s = false) : rlL s = [] := by rw [rlL, h]; rfl
theorem rlL_yes {s : ByteArray} (h : rlOk s = true) : rlL s = (wordsB s).filterMap rd := by rw [rlL, h]; rfl
theorem rlOk_none : rlOk nonB = true := by rw [rlOk, wordsB_none]; rfl
theorem rl_bad {s x : ByteArray} {k : Nat} (hx : (wordsB s)[k]? = some x) (h : rd x = none) : rlOk s = false := by
  have : (wordsB s).all someR = false := by
    rw [List.all_eq_false]
    exact ⟨x, List.mem_of_getElem? hx, by simp [someR, h]⟩
  rw [rlOk, this]; rfl
theorem rl_long {s : ByteArray} (h : 64 < (wordsB s).length) : rlOk s = false := by
  rw [rlOk, decide_eq_false (by omega), Bool.and_false]
theorem rl_good {s : ByteArray} (h : ∀ (i : Nat) x, (wordsB s)[i]? = some x → (rd x).isSome = true) (hl : (wordsB s).length ≤ 64) : rlOk s = true := by
  have : (wordsB s).all someR = true := by
    rw [List.all_eq_true]
    intro x hx
    obtain ⟨i, hi⟩ := List.getElem?_of_mem hx
    exact h i x hi
  rw [rlOk, this, decide_eq_true hl]; rfl
theorem fm_take {xs : List ByteArray} {k : Nat} {x : ByteArray} {n : Int} (hx : xs[k]? = some x) (h : rd x = some n) : (xs.take (k + 1)).filterMap rd = (xs.take k).filterMap rd ++ [n] := by
  rw [List.take_add_one, hx]
  simp [h]
theorem nil_own {α : Type} (f : α → Value) (T : TypeId) (w : World) (B : Nat) : OwnX f T w B (.slice none 0 0) ([] : List α) := ⟨rfl, .inl ⟨rfl, rfl⟩⟩
theorem news_at {w : World} {v : Value} {T : TypeId} : (w.alloc (.cells #[v] T)).cell? ⟨w.heap.size, 0, none⟩ = some v := cell_new4 w v T

/-- What a reading of a list returns. -/
def RetR (w : World) (s : ByteArray) (e : Ending) (w' : World) : Prop := ∃ a cap, e = .returned (.tuple #[.slice a (rlL s).length cap, .bool (rlOk s)]) ∧ OwnX fI 2 w' w.heap.size (.slice a (rlL s).length cap) (rlL s) ∧ Below w.heap.size w w'
theorem RetR.no {w w' : World} {s : ByteArray} (h : rlOk s = false) (hb : Below w.heap.size w w') : RetR w s (.returned (.tuple #[.slice none 0 0, .bool false])) w' := by
  refine ⟨none, 0, by rw [h, rlL_no h]; rfl, ?_, hb⟩
  rw [rlL_no h]
  exact nil_own _ _ _ _
theorem RetR.yes {w w' : World} {s : ByteArray} {a : Option Addr} {n cap : Nat} (h : rlOk s = true) (hn : ((wordsB s).filterMap rd).length = n) (ho : OwnX fI 2 w' w.heap.size (.slice a n cap) ((wordsB s).filterMap rd)) (hb : Below w.heap.size w w') : RetR w s (.returned (.tuple #[.slice a n cap, .bool true])) w' := by
  refine ⟨a, cap, by rw [h, rlL_yes h, hn], ?_, hb⟩
  rw [rlL_yes h, hn]
  exact ho


end Go.Proofs.YtcaceplnlfmejaaGreatDoor
