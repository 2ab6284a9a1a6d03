/- ListText: the program's text of a list; the law. -/
import Derived.Test.YtcaceplnlfmejaaDoorWt15
import Derived.Test.YtcaceplnlfmejaaDoorSjoin
namespace Go.Proofs.YtcaceplnlfmejaaDoor
open Go.RowKit
open Lib (itoa decDigits parseIntB)

abbrev fS : ByteArray → Value := Value.string
theorem infoS : (Tryd.prog.info? 9).map (fun i => (i.zero, i.size, i.bytes)) = some (some (.string ⟨#[]⟩), 1, 16) := by kernel_rfl
def joinB (xs : List ByteArray) : ByteArray := if xs = [] then ⟨#[110, 111, 110, 101]⟩ else ⟨(Lib.join (xs.map (·.data.toList)) [44]).toArray⟩
def itB (z : Int) : ByteArray := ⟨(itoa z).toArray⟩
theorem joinB_it (zs : List Int) : joinB (zs.map itB) = txB zs := by
  unfold joinB txB
  by_cases h : zs = []
  · simp [h]
  · rw [if_neg h, if_neg (by simpa using h), jnB, jn, List.take_of_length_le (by simp), List.map_map]
    congr 2
theorem OwnX.parts {α : Type} {f : α → Value} {T : TypeId} {w : World} {B : Nat} {v : Value} {zs : List α} (h : OwnX f T w B v zs) (hn : 0 < zs.length) : ∃ g cap, v = .slice (some ⟨g, 0, none⟩) zs.length cap ∧ zs.length ≤ cap ∧ g < w.heap.size ∧ ∀ (i : Nat) x, zs[i]? = some x → w.cell? ⟨g, 0 + i, none⟩ = some (f x) := by
  have h' := h
  rcases h.2 with ⟨rfl, hn'⟩ | ⟨g, cap, cur, rfl, hB, hg, hnc, hcm, _⟩
  · omega
  · have hlt : g < w.heap.size := by
      rcases Nat.lt_or_ge g w.heap.size with q | q
      · exact q
      · rw [Array.getElem?_eq_none q] at hg; cases hg
    refine ⟨g, cap, rfl, hnc, hlt, fun i x hi => ?_⟩
    have := World.ownsRow.cellAt h' i (by have := (List.getElem?_eq_some_iff.1 hi).1; omega)
    rw [Nat.zero_add, this, List.getElem?_map, hi]; rfl
theorem OwnX.shape {α : Type} {f : α → Value} {T : TypeId} {w : World} {B : Nat} {v : Value} {zs : List α} (h : OwnX f T w B v zs) : ∃ a cap, v = .slice a zs.length cap := by
  rcases h.2 with ⟨rfl, hn'⟩ | ⟨g, cap, cur, rfl, hB, hg, hnc, hcm, _⟩
  · exact ⟨none, 0, by rw [hn']⟩
  · exact ⟨_, cap, rfl⟩
theorem cell_new4 (w : World) (v : Value) (T : TypeId) : (w.alloc (.cells #[v] T)).cell? ⟨w.heap.size, 0, none⟩ = some v := by
  rw [World.cell?_alloc_new]; rfl

theorem news4 (w : World) (v : Value) (T : TypeId) : ∀ (j : Nat) u, [v][j]? = some u → (w.alloc (.cells #[v] T)).cell? ((⟨w.heap.size, 0, none⟩ : Addr).add j) = some u := fun j u hu => by
  cases j with
  | zero => simp at hu; subst hu; simp [Addr.add]
  | succ j => simp at hu
def ltV (zs : List Int) : Value := .tuple #[.string (if okL zs then txB zs else ⟨#[]⟩), .bool (okL zs)]
theorem ltV_no (zs : List Int) (h : okL zs = false) : ltV zs = .tuple #[.string ⟨#[]⟩, .bool false] := by rw [ltV, h]; rfl
theorem ltV_yes (zs : List Int) (h : okL zs = true) : ltV zs = .tuple #[.string (txB zs), .bool true] := by rw [ltV, h]; rfl

theorem impl_listOrNone (w : World) (B : Nat) (v : Value) (xs : List ByteArray) (h : OwnX fS 9 w B v xs) (hn : xs.length ≤ 65536) (hlen : (Lib.join (xs.map (·.data.toList)) [44]).length ≤ 140737488355328) :
    Calls Tryd.prog 44 #[v] w (fun e w' => e = .returned (.string (joinB xs)) ∧ Below w.heap.size w w') := by
  by_cases h0 : xs.length = 0
  · have HR : Hid (joinB xs = ⟨#[110, 111, 110, 101]⟩) := Lib.hid (by rw [joinB, if_pos (List.eq_nil_of_length_eq_zero h0)])
    obtain ⟨a, cap, rfl⟩ := h.shape
    clear h hlen
    go_enter Tryd.func44, Tryd.ntmps44
    go_wp2
    go_ret
    exact ⟨by rw [HR.out]; first | done | rfl, Below.refl _ _⟩
  · have HR : Hid (joinB xs = ⟨(Lib.join (xs.map (·.data.toList)) [44]).toArray⟩) := Lib.hid (by rw [joinB, if_neg (fun q => h0 (by rw [q]; rfl))])
    obtain ⟨g, cap, rfl, hc, hg, hcell⟩ := h.parts (by omega)
    have HJ := Lib.hid (Tryd.strings_Join g 0 cap xs ⟨#[44]⟩ w (fun j x hx => by simpa using hcell j x hx) hg (by omega) hc hlen)
    clear h hlen hcell hg hc
    go_enter Tryd.func44, Tryd.ntmps44
    go_wp2_with fail
    refine HJ.out.mono ?_
    rintro e w1 ⟨rfl, hb⟩
    have HB := Lib.hid hb
    clear hb HJ
    go_wp2
    go_ret
    exact ⟨by rw [HR.out]; first | done | rfl, HB.out⟩

set_option maxRecDepth 20000 in
theorem impl_ListText (w : World) (v : Value) (zs : List Int) (h : XS fI w v zs) (ht : Tb w) :
    Calls Tryd.prog 17 #[v] w (fun e w' => e = .returned (ltV zs) ∧ Below w.heap.size w w') := by
  obtain ⟨iS, hi, hz0, hz1, hz2⟩ := info_parts infoS
  obtain ⟨a, len, cap, rfl⟩ := h.shape
  obtain ⟨rfl, hm, HC⟩ := h.at
  unfold maxLen at hm
  have HT := Lib.hid ht
  clear h ht
  have HV := Lib.hid impl_isValueB
  have HD := Lib.hid (fun n h0 h1 w h => impl_Decimal w n h0 h1 h)
  have HLN := Lib.hid (fun (v : Value) (xs : List ByteArray) (w' : World) => impl_listOrNone w' w.heap.size v xs)
  go_enter Tryd.func17, Tryd.ntmps17
  go_wp2_with fail
  go_loopw [4, 10] (fun s i wr => ∃ k g c : Nat, k ≤ zs.length ∧ i = .int .i64 k ∧ s = .slice (some ⟨g, 0, none⟩) k c ∧ (64 < zs.length → k = 0) ∧ OwnX fS 9 wr w.heap.size s ((zs.take k).map itB) ∧ Hid (∀ (i : Nat) x, zs[i]? = some x → i < k → okZ x = true) ∧ Below w.heap.size w wr) (fun _ i _ => zs.length - (intOf i).toNat)
  case atStart => exact ⟨0, _, _, Nat.zero_le _, rfl, rfl, fun _ => rfl, World.ownsRow_made _ _ 0 (Nat.le_refl _) (by unfold maxLen; omega) rfl, Lib.hid (fun _ _ _ h => by omega), (Below.refl _ _).alloc (Nat.le_refl _) _⟩
  case round =>
    obtain ⟨k, g, c, hk, rfl, rfl, h64, hown, HA, hbel⟩ := hrel
    have HB := Lib.hid hbel
    have hsz := hbel.size
    have HT1 := Lib.hid (HT.out.later hbel)
    have HOW := Lib.hid hown
    have hwl : ((zs.take k).map itB).length = k := by simp; omega
    clear hown
    by_cases hlt : k < zs.length
    · obtain ⟨x, hx⟩ := at_of_lt hlt
      obtain ⟨b, off, rfl, hb, hc0⟩ := HC.out k x hx
      have hc1 : wr.cell? ⟨b, off + k, none⟩ = some (.int .i64 x) := (hbel.cell (p := ⟨b, off + k, none⟩) hb).trans hc0
      have HX := Lib.hid hx
      clear hc0 hx hbel
      have HWL := Lib.hid hwl
      clear hwl
      go_wp2_with fail
      refine (HV.out x _).mono ?_
      rintro e w1 ⟨rfl, hb1⟩
      have HB1 := Lib.hid (HB.out.trans (hb1.mono hsz))
      have HT2 := Lib.hid (HT1.out.later hb1)
      have HO1 := Lib.hid (HOW.out.later hb1)
      have hsz1 := HB1.out.size
      clear hb1 hc1 HB HT1 HOW
      cases hin : inB x (-1000000000000000) 1000000000000000 with
      | false =>
        have HR : Hid (ltV zs = _) := Lib.hid (ltV_no zs (by rw [okL, not_all HX.out hin]; rfl))
        clear hin
        go_wp2
        go_ret2
        exact ⟨by rw [HR.out]; first | done | rfl, HB1.out⟩
      | true =>
        by_cases h65 : 64 < zs.length
        · have HR : Hid (ltV zs = _) := Lib.hid (ltV_no zs (by rw [okL, decide_eq_false (by omega)]; simp))
          clear hin
          go_wp2
          go_ret2
          exact ⟨by rw [HR.out]; first | done | rfl, HB1.out⟩
        · have HN : Hid (∀ (i : Nat) x, zs[i]? = some x → i < k + 1 → okZ x = true) := Lib.hid fun i y hy hi => by
            rcases Nat.lt_or_ge i k with q | q
            · exact HA.out i y hy q
            · obtain rfl : i = k := by omega
              obtain rfl := Option.some.inj (hy.symm.trans HX.out)
              exact hin
          obtain ⟨i0, i1⟩ := inB_bd hin
          have HTK : Hid ((zs.take (k + 1)).map itB = (zs.take k).map itB ++ [itB x]) := Lib.hid (by rw [List.take_add_one, HX.out]; simp)
          clear hin
          go_wp2_with fail
          refine (HD.out x i0 i1 _ HT2.out).mono ?_
          rintro e w2 ⟨rfl, hb2⟩
          have HB2 := Lib.hid (HB1.out.trans (hb2.mono hsz1))
          have HT3 := Lib.hid (HT2.out.later hb2)
          have HO2 := Lib.hid (HO1.out.later hb2)
          have hsz2 := HB2.out.size
          have hit : (⟨(itoa x).toArray⟩ : ByteArray) = itB x := rfl
          rw [hit]
          clear hb2 HB1 HT2 HO1 hit
          generalize itB x = t at *
          go_wp2_with (at_builtin; refine Classical.byContradiction fun hno => ?_)
          refine hno ?_
          refine wpList_append_own_at _ ?a1 (.tmp 22) (.tmp 25) 52 ?a2 w.heap.size 9 iS (.string ⟨#[]⟩) 1 16 ?a0 ?b1 ?b2 ?b3 ?b4 ?a3 ?a4 (.slice (some ⟨g, 0, none⟩) k c) ((zs.take k).map itB).length (((zs.take k).map itB).map fS) ?a5 ?q1 ⟨w2.heap.size, 0, none⟩ 1 1 [.string t] ?a6 ?a7 ?q2 ?q3 ?q4 ?q5 ?q6 ?_
          case a0 => exact Tryd.underlying52
          case a1 => rfl
          case a2 => rfl
          case b1 => exact hi
          case b2 => exact hz0
          case b3 => exact hz1
          case b4 => exact hz2
          case a3 => rfl
          case a4 => decide
          case a5 => rfl
          case a6 => rfl
          case a7 => rfl
          case q1 => exact World.ownsRow.alloc HO2.out _
          case q2 => exact news4 w2 (.string t) 9
          case q3 => intro u hu; simp at hu; subst hu; rfl
          case q4 => unfold maxLen; have := HWL.out; omega
          case q5 => have := HWL.out; omega
          case q6 => simp; omega
          intro v3 w3 ho hg hnil hat
          obtain ⟨g1, c1, rfl⟩ : ∃ g1 c1, v3 = .slice (some ⟨g1, 0, none⟩) (k + 1) c1 := by
            rcases ho.2 with ⟨_, h'⟩ | ⟨g', cap', cur, h', _⟩
            · omega
            · exact ⟨_, _, by rw [h', HWL.out]⟩
          have HO3 : Hid (OwnX fS 9 w3 w.heap.size (.slice (some ⟨g1, 0, none⟩) (k + 1) c1) ((zs.take (k + 1)).map itB)) := Lib.hid (by
            unfold OwnX
            rw [HTK.out, List.length_append, List.map_append]
            exact ho)
          have HB3 : Hid (Below w.heap.size w w3) := Lib.hid (Below.grown (HB2.out.alloc hsz2 _) hg (by simp; omega) (fun j hj => by have := HO2.out; rcases this.2 with ⟨q, _⟩ | ⟨g', cap', cur, h', hB', _⟩ <;> simp_all [Value.ownBlock]))
          clear ho hg hnil hat HO2 HB2 HT3
          go_wp2
          go_roundw
          case rel => exact ⟨k + 1, _, _, by omega, by go_num, rfl, fun q => absurd q h65, HO3.out, HN, HB3.out⟩
          case measure => simp [intOf]; omega
    · obtain rfl : k = zs.length := by omega
      have h65 : ¬ 64 < zs.length := fun q => by have := h64 q; omega
      have hall := all_at zs (fun i x hx => HA.out i x hx (by have := (List.getElem?_eq_some_iff.1 hx).1; omega))
      have HR : Hid (ltV zs = _) := Lib.hid (ltV_yes zs (by rw [okL, hall, decide_eq_true (by omega)]; rfl))
      rw [List.take_length] at HOW
      have hlen : (Lib.join ((zs.map itB).map (·.data.toList)) [44]).length ≤ 140737488355328 := by
        have e : (zs.map itB).map (·.data.toList) = (zs.map itoa).take zs.length := by
          rw [List.take_of_length_le (by simp), List.map_map]
          congr 1
        rw [e]
        rcases Nat.eq_zero_or_pos zs.length with q | q
        · rw [List.eq_nil_of_length_eq_zero q]; simp [Lib.join_nil]
        · have := jn_len hall zs.length q (Nat.le_refl _)
          unfold jn at this
          omega
      have HL := Lib.hid (HLN.out _ (zs.map itB) wr HOW.out (by simp; omega) hlen)
      have HJ := Lib.hid (joinB_it zs)
      clear hbel hlen hall h64 hwl
      go_wp2_with fail
      refine HL.out.mono ?_
      rintro e w1 ⟨rfl, hb1⟩
      have HB1 := Lib.hid (HB.out.trans (hb1.mono hsz))
      clear hb1
      rw [HJ.out]
      go_wp2
      go_ret2
      exact ⟨by rw [HR.out]; first | done | rfl, HB1.out⟩

end Go.Proofs.YtcaceplnlfmejaaDoor
