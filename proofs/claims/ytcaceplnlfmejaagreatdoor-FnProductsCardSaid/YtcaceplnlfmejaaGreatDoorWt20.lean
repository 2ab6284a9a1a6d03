/- The parts of a text between marks. -/
import Derived.Test.YtcaceplnlfmejaaGreatDoorWt17
import Derived.Lib.SplitLaws
namespace Go.Proofs.YtcaceplnlfmejaaGreatDoor
open Go.RowKit
open Lib (itoa decDigits parseIntB)

/-- The parts of a text; acc: the part that is under way. -/
def pcs (c : UInt8) : List UInt8 → List UInt8 → List (List UInt8)
  | acc, [] => [acc]
  | acc, b :: r => if b = c then acc :: pcs c [] r else pcs c (acc ++ [b]) r
theorem pcs_ne (c : UInt8) : ∀ (r acc : List UInt8), pcs c acc r ≠ []
  | [], _ => by simp [pcs]
  | b :: r, acc => by
    rw [pcs]
    split
    · simp
    · exact pcs_ne c r _
theorem pcs_acc (c : UInt8) : ∀ (r a acc : List UInt8), pcs c (a ++ acc) r = (a ++ (pcs c acc r).head (pcs_ne c r acc)) :: (pcs c acc r).tail
  | [], a, acc => by simp [pcs]
  | b :: r, a, acc => by
    by_cases h : b = c
    · simp [pcs, h]
    · have := pcs_acc c r a (acc ++ [b])
      simp only [pcs, h, if_false, List.append_assoc] at this ⊢
      exact this
theorem splitK_ne (c : UInt8) : ∀ (n : Nat) (s : List UInt8), Lib.splitK [c] 0 n s ≠ []
  | 0, _ => by simp [Lib.splitK]
  | n + 1, s => by
    rw [Lib.splitK]
    split <;> simp
theorem splitK_cons (c b : UInt8) (l : List UInt8) (h : b ≠ c) (n : Nat) : Lib.splitK [c] 0 n (b :: l) = (b :: (Lib.splitK [c] 0 n l).head (splitK_ne c n l)) :: (Lib.splitK [c] 0 n l).tail := by
  have hb : (b == c) = false := by simpa using h
  cases n with
  | zero => simp [Lib.splitK]
  | succ n =>
    have hi : Lib.index (b :: l) [c] = if Lib.index l [c] == -1 then -1 else Lib.index l [c] + 1 := by
      rw [Lib.index_one, Lib.index_one, Lib.indexByte, hb]; rfl
    have hg := Lib.index_ge l [c]
    by_cases hm : Lib.index l [c] = -1
    · rw [hm] at hi
      simp [Lib.splitK, hi, hm]
    · have hm' : (Lib.index l [c] == -1) = false := by simpa using hm
      rw [hm'] at hi
      have hi2 : Lib.index (b :: l) [c] = Lib.index l [c] + 1 := hi
      have hn1 : (Lib.index (b :: l) [c] == -1) = false := by
        simp [hi2]; omega
      obtain ⟨k, hk⟩ : ∃ k : Nat, Lib.index l [c] = k := ⟨(Lib.index l [c]).toNat, by omega⟩
      have e1 : (Lib.index (b :: l) [c]).toNat = k + 1 := by omega
      have e2 : (Lib.index l [c]).toNat = k := by omega
      simp only [Lib.splitK, hn1, hm', e1, e2, if_false, Bool.false_eq_true, List.length_singleton, Nat.add_zero]
      simp
theorem splitK_pcs (c : UInt8) : ∀ (s : List UInt8), Lib.splitK [c] 0 (s.count c) s = pcs c [] s
  | [] => by simp [Lib.splitK, pcs]
  | b :: l => by
    have ih := splitK_pcs c l
    by_cases h : b = c
    · subst h
      have hi : Lib.index (b :: l) [b] = 0 := by rw [Lib.index_one]; simp [Lib.indexByte]
      rw [List.count_cons_self]
      simp only [Lib.splitK, hi, pcs]
      simp [ih]
    · rw [List.count_cons_of_ne h, splitK_cons c b l h]
      have := pcs_acc c l [b] []
      simp only [List.append_nil] at this
      simp only [pcs, h, if_false, List.nil_append, this]
      simp [ih]
def ofL (l : List UInt8) : ByteArray := ⟨l.toArray⟩
def partsB (s : ByteArray) : List ByteArray := (pcs 44 [] s.data.toList).map ofL
theorem split_parts (s : ByteArray) : Lib.splitB ⟨#[44]⟩ 0 (Lib.countB s ⟨#[44]⟩) s = partsB s := by
  have h := Lib.splitB_data ⟨#[44]⟩ 0 (Lib.countB s ⟨#[44]⟩) s
  have hc : Lib.countB s ⟨#[44]⟩ = s.data.toList.count 44 := Lib.count_one 44 s.data.toList
  rw [hc] at h ⊢
  have h2 : Lib.splitK [44] 0 (s.data.toList.count 44) s.data.toList = _ := splitK_pcs 44 s.data.toList
  have h3 : (Lib.splitB ⟨#[44]⟩ 0 (s.data.toList.count 44) s).map (·.data.toList) = pcs 44 [] s.data.toList := h.trans h2
  unfold partsB
  rw [← h3, List.map_map]
  have : (ofL ∘ fun (x : ByteArray) => x.data.toList) = id := by
    funext x
    simp [ofL]
  rw [this, List.map_id]
theorem parts_count (s : ByteArray) : Lib.countB s ⟨#[44]⟩ + 1 = (partsB s).length := by
  rw [← split_parts, Lib.splitB_all ⟨#[44]⟩ (by decide) 0 _ s rfl]
theorem pcs_len (c : UInt8) : ∀ (r acc : List UInt8), (pcs c acc r).length ≤ r.length + 1
  | [], _ => by simp [pcs]
  | b :: r, acc => by
    rw [pcs]
    split
    · have := pcs_len c r []; simp; omega
    · have := pcs_len c r (acc ++ [b]); simp; omega
theorem parts_len (s : ByteArray) : 1 ≤ (partsB s).length ∧ (partsB s).length ≤ s.size + 1 := by
  unfold partsB
  rw [List.length_map]
  have h1 := pcs_len 44 s.data.toList []
  have h2 : (pcs 44 [] s.data.toList).length ≠ 0 := fun q => pcs_ne 44 _ _ (List.eq_nil_of_length_eq_zero q)
  have : s.data.toList.length = s.size := by simp
  omega

/-- The parts that the loop still finds at place k, the part under way having begun at j. -/
def restP (s : ByteArray) (j k : Nat) : List ByteArray := if k ≤ s.size then (pcs 44 ((s.data.toList.drop j).take (k - j)) (s.data.toList.drop k)).map ofL else []
theorem at_byte (s : ByteArray) (k : Nat) (h : k < s.size) : s.data.toList[k]? = some s[k] := by
  rw [Array.getElem?_toList]
  exact Array.getElem?_eq_getElem (xs := s.data) (i := k) h
theorem drop_at (s : ByteArray) (k : Nat) (h : k < s.size) : s.data.toList.drop k = s[k] :: s.data.toList.drop (k + 1) := by
  have hl : k < s.data.toList.length := by simpa using h
  rw [List.drop_eq_getElem_cons hl]
  congr 1
theorem restP_start (s : ByteArray) : restP s 0 0 = partsB s := by simp [restP, partsB]
theorem restP_end (s : ByteArray) (j : Nat) : restP s j (s.size + 1) = [] := by rw [restP, if_neg (by omega)]
theorem extract_of (s : ByteArray) (j k : Nat) : s.extract j k = ofL ((s.data.toList.drop j).take (k - j)) := by
  apply ByteArray.ext
  apply Array.ext'
  simp [ofL]
theorem restP_last (s : ByteArray) (j : Nat) : restP s j s.size = [s.extract j s.size] := by
  have e : s.data.toList.drop s.size = [] := List.drop_of_length_le (by simp)
  rw [restP, if_pos (Nat.le_refl _), e, pcs, extract_of]; rfl
theorem restP_hit (s : ByteArray) (j k : Nat) (h : k < s.size) (hc : s[k] = 44) : restP s j k = s.extract j k :: restP s (k + 1) (k + 1) := by
  rw [restP, if_pos (by omega), drop_at s k h, pcs, if_pos hc, List.map_cons, ← extract_of, restP, if_pos (by omega)]
  simp
theorem restP_miss (s : ByteArray) (j k : Nat) (hj : j ≤ k) (h : k < s.size) (hc : s[k] ≠ 44) : restP s j k = restP s j (k + 1) := by
  rw [restP, if_pos (by omega), drop_at s k h, pcs, if_neg hc, restP, if_pos (by omega)]
  congr 2
  have e : k + 1 - j = (k - j) + 1 := by omega
  rw [e, List.take_add_one, List.getElem?_drop, show j + (k - j) = k by omega, at_byte s k h]; rfl

theorem own_push {α : Type} {f : α → Value} {T : TypeId} {w : World} {B : Nat} {v : Value} {done : List α} {x : α} (ho : w.ownsRow B T 1 v (done.length + 1) (done.map f ++ [f x])) :
    ∃ g c, v = .slice (some ⟨g, 0, none⟩) (done ++ [x]).length c ∧ OwnX f T w B (.slice (some ⟨g, 0, none⟩) (done ++ [x]).length c) (done ++ [x]) := by
  have h := ho
  rcases ho.2 with ⟨_, h'⟩ | ⟨g', cap', cur, h', _⟩
  · omega
  · refine ⟨g', cap', by rw [h']; simp, ?_⟩
    unfold OwnX
    rw [h'] at h
    simpa using h
theorem push_below {α : Type} {f : α → Value} {T : TypeId} {w wr w' : World} {o : Obj} {v : Value} {done : List α} (hb : Below w.heap.size w wr) (ho : OwnX f T wr w.heap.size v done) (hg : (wr.alloc o).grownBy w' v.ownBlock) : Below w.heap.size w w' :=
  Below.grown (hb.alloc hb.size _) hg (by have := hb.size; simp; omega) (fun k hk => by
    rcases ho.2 with ⟨rfl, _⟩ | ⟨g, cap, cur, rfl, hB, _⟩
    · simp [Value.ownBlock] at hk
    · simp [Value.ownBlock] at hk; omega)


end Go.Proofs.YtcaceplnlfmejaaGreatDoor
