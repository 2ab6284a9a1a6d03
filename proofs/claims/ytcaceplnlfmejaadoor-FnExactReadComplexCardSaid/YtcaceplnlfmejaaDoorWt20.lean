/- The parts of a text between marks. -/
import Derived.Test.YtcaceplnlfmejaaDoorWt17
import Derived.Lib.SplitLaws
namespace Go.Proofs.YtcaceplnlfmejaaDoor
open Go.RowKit
open Lib (itoa decDigits parseIntB)

/-- The parts of a text; acc: the part that is under way. -/
def pcs (c : UInt8) : List UInt8 → List UInt8 → List (List UInt8)
  | acc, [] => [acc]
  | acc, b :: r => if b = c then acc :: pcs c [] r else pcs c (acc ++ [b]) r
theorem pcs_ne (c : UInt8) : ∀ (r acc : List UInt8), pcs c acc r ≠ []
  | [], _ => by simp [pcs]
  | b :: r, acc => by
    rw [pcs]
    split
    · simp
    · exact pcs_ne c r _
theorem pcs_acc (c : UInt8) : ∀ (r a acc : List UInt8), pcs c (a ++ acc) r = (a ++ (pcs c acc r).head (pcs_ne c r acc)) :: (pcs c acc r).tail
  | [], a, acc => by simp [pcs]
  | b :: r, a, acc => by
    by_cases h : b = c
    · simp [pcs, h]
    · have := pcs_acc c r a (acc ++ [b])
      simp only [pcs, h, if_false, List.append_assoc] at this ⊢
      exact this
theorem splitK_ne (c : UInt8) : ∀ (n : Nat) (s : List UInt8), Lib.splitK [c] 0 n s ≠ []
  | 0, _ => by simp [Lib.splitK]
  | n + 1, s => by
    rw [Lib.splitK]
    split <;> simp
theorem splitK_cons (c b : UInt8) (l : List UInt8) (h : b ≠ c) (n : Nat) : Lib.splitK [c] 0 n (b :: l) = (b :: (Lib.splitK [c] 0 n l).head (splitK_ne c n l)) :: (Lib.splitK [c] 0 n l).tail := by
  have hb : (b == c) = false := by simpa using h
  cases n with
  | zero => simp [Lib.splitK]
  | succ n =>
    have hi : Lib.index (b :: l) [c] = if Lib.index l [c] == -1 then -1 else Lib.index l [c] + 1 := by
      rw [Lib.index_one, Lib.index_one, Lib.indexByte, hb]; rfl
    have hg := Lib.index_ge l [c]
    by_cases hm : Lib.index l [c] = -1
    · rw [hm] at hi
      simp [Lib.splitK, hi, hm]
    · have hm' : (Lib.index l [c] == -1) = false := by simpa using hm
      rw [hm'] at hi
      have hi2 : Lib.index (b :: l) [c] = Lib.index l [c] + 1 := hi
      have hn1 : (Lib.index (b :: l) [c] == -1) = false := by
        simp [hi2]; omega
      obtain ⟨k, hk⟩ : ∃ k : Nat, Lib.index l [c] = k := ⟨(Lib.index l [c]).toNat, by omega⟩
      have e1 : (Lib.index (b :: l) [c]).toNat = k + 1 := by omega
      have e2 : (Lib.index l [c]).toNat = k := by omega
      simp only [Lib.splitK, hn1, hm', e1, e2, if_false, Bool.false_eq_true, List.length_singleton, Nat.add_zero]
      simp
theorem splitK_pcs (c : UInt8) : ∀ (s : List UInt8), Lib.splitK [c] 0 (s.count c) s = pcs c [] s
  | [] => by simp [Lib.splitK, pcs]
  | b :: l => by
    have ih := splitK_pcs c l
    by_cases h : b = c
    · subst h
      have hi : Lib.index (b :: l) [b] = 0 := by rw [Lib.index_one]; simp [Lib.indexByte]
      rw [List.count_cons_self]
      simp only [Lib.splitK, hi, pcs]
      simp [ih]
    · rw [List.count_cons_of_ne h, splitK_cons c b l h]
      have := pcs_acc c l [b] []
      simp only [List.append_nil] at this
      simp only [pcs, h, if_false, List.nil_append, this]
      simp [ih]
def ofL (l : List UInt8) : ByteArray := ⟨l.toArray⟩
def partsB (s : ByteArray) : List ByteArray := (pcs 44 [] s.data.toList).map ofL
theorem split_parts (s : ByteArray) : Lib.splitB ⟨#[44]⟩ 0 (Lib.countB s ⟨#[44]⟩) s = partsB s := by
  have h := Lib.splitB_data ⟨#[44]⟩ 0 (Lib.countB s ⟨#[44]⟩) s
  have hc : Lib.countB s ⟨#[44]⟩ = s.data.toList.count 44 := Lib.count_one 44 s.data.toList
  rw [hc] at h ⊢
  have h2 : Lib.splitK [44] 0 (s.data.toList.count 44) s.data.toList = _ := splitK_pcs 44 s.data.toList
  have h3 : (Lib.splitB ⟨#[44]⟩ 0 (s.data.toList.count 44) s).map (·.data.toList) = pcs 44 [] s.data.toList := h.trans h2
  unfold partsB
  rw [← h3, List.map_map]
  have : (ofL ∘ fun (x : ByteArray) => x.data.toList) = id := by
    funext x
    simp [ofL]
  rw [this, List.map_id]
theorem parts_count (s : ByteArray) : Lib.countB s ⟨#[44]⟩ + 1 = (partsB s).length := by
  rw [← split_parts, Lib.splitB_all ⟨#[44]⟩ (by decide) 0 _ s rfl]
theorem pcs_len (c : UInt8) : ∀ (r acc : List UInt8), (pcs c acc r).length ≤ r.length + 1
  | [], _ => by simp [pcs]
  | b :: r, acc => by
    rw [pcs]
    split
    · have := pcs_len c r []; simp; omega
    · have := pcs_len c r (acc ++ [b]); simp; omega
theorem parts_len (s : ByteArray) : 1 ≤ (partsB s).length ∧ (partsB s).length ≤ s.size + 1 := by
  unfold partsB
  rw [List.length_map]
  have h1 := pcs_len 44 s.data.toList []
  have h2 : (pcs 44 [] s.data.toList).length ≠ 0 := fun q => pcs_ne 44 _ _ (List.eq_nil_of_length_eq_zero q)
  have : s.data.toList.length = s.size := by simp
  omega

/-- The parts that the loop still finds at place k, the part under way having begun at j. -/
def restP (s : ByteArray) (j k : Nat) : List ByteArray := if k ≤ s.size then (pcs 44 ((s.data.toList.drop j).take (k - j)) (s.data.toList.drop k)).map ofL else []
theorem at_byte (s : ByteArray) (k : Nat) (h : k < s.size) : s.data.toList[k]? = some s[k] := by
  rw [Array.getElem?_toList]
  exact Array.getElem?_eq_getElem (xs := s.data) (i := k) h
theorem drop_at (s : ByteArray) (k : Nat) (h : k < s.size) : s.data.toList.drop k = s[k] :: s.data.toList.drop (k + 1) := by
  have hl : k < s.data.toList.length := by simpa using h
  rw [List.drop_eq_getElem_cons hl]
  congr 1
theorem restP_start (s : ByteArray) : restP s 0 0 = partsB s := by simp [restP, partsB]
theorem restP_end (s : ByteArray) (j : Nat) : restP s j (s.size + 1) = [] := by rw [restP, if_neg (by omega)]
theorem extract_of (s : ByteArray) (j k : Nat) : s.extract j k = ofL ((s.data.toList.drop j).take (k - j)) := by
  apply ByteArray.ext
  apply Array.ext'
  simp [ofL]
theorem restP_last (s : ByteArray) (j : Nat) : restP s j s.size = [s.extract j s.size] := by
  have e : s.data.toList.drop s.size = [] := List.drop_of_length_le (by simp)
  rw [restP, if_pos (Nat.le_refl _), e, pcs, extract_of]; rfl
theorem restP_hit (s : ByteArray) (j k : Nat) (h : k < s.size) (hc : s[k] = 44) : restP s j k = s.extract j k :: restP s (k + 1) (k + 1) := by
  rw [restP, if_pos (by omega), drop_at s k h, pcs, if_pos hc, List.map_cons, ← extract_of, restP, if_pos (by omega)]
  simp
theorem restP_miss (s : ByteArray) (j k : Nat) (hj : j ≤ k) (h : k < s.size) (hc : s[k] ≠ 44) : restP s j k = restP s j (k + 1) := by
  rw [restP, if_pos (by omega), drop_at s k h, pcs, if_neg hc, restP, if_pos (by omega)]
  congr 2
  have e : k + 1 - j = (k - j) + 1 := by omega
  rw [e, List.take_add_one, List.getElem?_drop, show j + (k - j) = k by omega, at_byte s k h]; rfl

theorem own_push {α : Type} {f : α → Value} {T : TypeId} {w : World} {B : Nat} {v : Value} {done : List α} {x : α} (ho : w.ownsRow B T 1 v (done.length + 1) (done.map f ++ [f x])) :
    ∃ g c, v = .slice (some ⟨g, 0, none⟩) (done ++ [x]).length c ∧ OwnX f T w B (.slice (some ⟨g, 0, none⟩) (done ++ [x]).length c) (done ++ [x]) := by
  have h := ho
  rcases ho.2 with ⟨_, h'⟩ | ⟨g', cap', cur, h', _⟩
  · omega
  · refine ⟨g', cap', by rw [h']; simp, ?_⟩
    unfold OwnX
    rw [h'] at h
    simpa using h
theorem push_below {α : Type} {f : α → Value} {T : TypeId} {w wr w' : World} {o : Obj} {v : Value} {done : List α} (hb : Below w.heap.size w wr) (ho : OwnX f T wr w.heap.size v done) (hg : (wr.alloc o).grownBy w' v.ownBlock) : Below w.heap.size w w' :=
  Below.grown (hb.alloc hb.size _) hg (by have := hb.size; simp; omega) (fun k hk => by
    rcases ho.2 with ⟨rfl, _⟩ | ⟨g, cap, cur, rfl, hB, _⟩
    · simp [Value.ownBlock] at hk
    · simp [Value.ownBlock] at hk; omega)
set_option maxRecDepth 20000 in
theorem spec_l01Cut (w : World) (s : ByteArray) (hs : s.size ≤ 1048576) :
    Calls Tryd.prog 73 #[.string s, .int .u8 44] w (fun e w' => ∃ v, e = .returned v ∧ OwnX fS 9 w' w.heap.size v (partsB s) ∧ Below w.heap.size w w') := by
  obtain ⟨iS, hi, hz0, hz1, hz2⟩ := info_parts infoS
  have hs' : (s.size : Int) ≤ 1048576 := by omega
  have H0 := Lib.hid (restP_start s); have H1 := Lib.hid (restP_end s); have H2 := Lib.hid (restP_last s); have H3 := Lib.hid (restP_hit s); have H4 := Lib.hid (restP_miss s)
  go_enter Tryd.func73, Tryd.ntmps73
  go_wp2_with fail
  go_loopw [5, 6, 7] (fun o f i wr => ∃ (k j g c : Nat) (done : List ByteArray), k ≤ s.size + 1 ∧ j ≤ k ∧ done.length ≤ k ∧ o = .slice (some ⟨g, 0, none⟩) done.length c ∧ f = .int .i64 j ∧ i = .int .i64 k ∧ OwnX fS 9 wr w.heap.size o done ∧ Hid (done ++ restP s j k = partsB s) ∧ Below w.heap.size w wr) (fun _ _ i _ => s.size + 1 - (intOf i).toNat)
  case atStart => exact ⟨0, 0, _, _, [], by omega, Nat.le_refl _, Nat.le_refl _, rfl, rfl, rfl, World.ownsRow_made _ _ 0 (Nat.le_refl _) (by unfold maxLen; omega) rfl, Lib.hid (by rw [List.nil_append, H0.out]), (Below.refl _ _).alloc (Nat.le_refl _) _⟩
  case round =>
    obtain ⟨k, j, g, c, done, hk, hj, hd, rfl, rfl, rfl, hown, HR, hbel⟩ := hrel
    have HB := Lib.hid hbel
    have hsz := hbel.size
    have HO := Lib.hid hown
    clear hown hbel
    have hd' : (done.length : Int) ≤ 1048577 := by omega
    by_cases hlt : k < s.size
    · have hby : (s[k].toNat : Int) ≤ 255 := by have := s[k].toNat_lt; omega
      have hby0 : 0 ≤ (s[k].toNat : Int) := by omega
      by_cases hc : (s[k].toNat : Int) = 44
      · have hc' : s[k] = 44 := UInt8.toNat_inj.1 (by have : (44 : UInt8).toNat = 44 := rfl
                                                      omega)
        have HN : Hid ((done ++ [s.extract j k]) ++ restP s (k + 1) (k + 1) = partsB s) := Lib.hid (by rw [List.append_assoc, List.singleton_append, ← H3.out j k hlt hc']; exact HR.out)
        clear hc'
        go_wp2_with (at_builtin; refine wpList_append_own_at _ rfl (.tmp 26) (.tmp 31) 52 rfl w.heap.size 9 iS (.string ⟨#[]⟩) 1 16 Tryd.underlying52 hi hz0 hz1 hz2 rfl (by decide) (.slice (some ⟨g, 0, none⟩) done.length c) done.length (done.map fS) rfl (World.ownsRow.alloc HO.out _) ⟨wr.heap.size, 0, none⟩ 1 1 [.string (s.extract j k)] rfl rfl (news4 wr _ _) (fun u hu => by simp at hu; subst hu; rfl) (by unfold maxLen; omega) (by omega) (by simp; omega) ?_)
        intro v3 w3 ho hg hnil hat
        obtain ⟨g1, c1, rfl, hown⟩ := own_push ho
        have HO3 := Lib.hid hown
        have HB3 := Lib.hid (push_below HB.out HO.out hg)
        clear ho hg hnil hat hown HO HB
        go_wp2
        go_roundw
        case rel => exact ⟨k + 1, k + 1, g1, c1, done ++ [s.extract j k], by omega, Nat.le_refl _, by simp; omega, rfl, by go_num, by go_num, HO3.out, HN, HB3.out⟩
        case measure => simp [intOf]; omega
      · have hc' : s[k] ≠ 44 := fun q => hc (by rw [q]; rfl)
        have HN : Hid (done ++ restP s j (k + 1) = partsB s) := Lib.hid (by rw [← H4.out j k hj hlt hc']; exact HR.out)
        clear hc'
        have q1 : ((s[k].toNat : Int) == 44) = false := by simpa using hc
        have q2 : ((k : Int) == (s.size : Int)) = false := by simp; omega
        go_wp2
        go_roundw
        case rel => exact ⟨k + 1, j, g, c, done, by omega, by omega, by omega, rfl, rfl, by go_num, HO.out, HN, HB.out⟩
        case measure => simp [intOf]; omega
    · by_cases he : k = s.size
      · subst he
        have HN : Hid ((done ++ [s.extract j s.size]) ++ restP s (s.size + 1) (s.size + 1) = partsB s) := Lib.hid (by rw [H1.out, List.append_nil, ← H2.out j]; exact HR.out)
        go_wp2_with (at_builtin; refine wpList_append_own_at _ rfl (.tmp 26) (.tmp 31) 52 rfl w.heap.size 9 iS (.string ⟨#[]⟩) 1 16 Tryd.underlying52 hi hz0 hz1 hz2 rfl (by decide) (.slice (some ⟨g, 0, none⟩) done.length c) done.length (done.map fS) rfl (World.ownsRow.alloc HO.out _) ⟨wr.heap.size, 0, none⟩ 1 1 [.string (s.extract j s.size)] rfl rfl (news4 wr _ _) (fun u hu => by simp at hu; subst hu; rfl) (by unfold maxLen; omega) (by omega) (by simp; omega) ?_)
        intro v3 w3 ho hg hnil hat
        obtain ⟨g1, c1, rfl, hown⟩ := own_push ho
        have HO3 := Lib.hid hown
        have HB3 := Lib.hid (push_below HB.out HO.out hg)
        clear ho hg hnil hat hown HO HB
        go_wp2
        go_roundw
        case rel => exact ⟨s.size + 1, s.size + 1, g1, c1, done ++ [s.extract j s.size], Nat.le_refl _, Nat.le_refl _, by rw [List.length_append, List.length_singleton]; omega, rfl, by go_num, by go_num, HO3.out, HN, HB3.out⟩
        case measure => simp [intOf]
      · obtain rfl : k = s.size + 1 := by omega
        have HN : Hid (OwnX fS 9 wr w.heap.size (.slice (some ⟨g, 0, none⟩) done.length c) (partsB s)) := Lib.hid (by have := HR.out; rw [H1.out, List.append_nil] at this; rw [← this]; exact HO.out)
        go_wp2
        go_ret
        exact ⟨_, rfl, HN.out, HB.out⟩


end Go.Proofs.YtcaceplnlfmejaaDoor
