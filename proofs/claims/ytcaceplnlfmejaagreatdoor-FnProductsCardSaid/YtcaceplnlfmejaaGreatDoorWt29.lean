/- NumbersText: the walks and the law. -/
import Derived.Test.YtcaceplnlfmejaaGreatDoorWt28
import Derived.Test.YtcaceplnlfmejaaGreatDoorWk5
namespace Go.Proofs.YtcaceplnlfmejaaGreatDoor
open Fl Go.RowKit

abbrev fF : Nat → Value := Value.float .f32
theorem FS.toX {w : World} {v : Value} {zs : List Nat} (h : FS w v zs) : XS fF w v zs := by
  obtain ⟨a, len, cap, rfl, hl, hm, h⟩ := h
  refine ⟨a, len, cap, rfl, hl, hm, ?_⟩
  rcases h with h | ⟨b, off, rfl, hb, hc⟩
  · exact .inl h
  · refine .inr ⟨b, off, rfl, hb, fun i x hx => ?_⟩
    have hi := (List.getElem?_eq_some_iff.1 hx).1
    rw [hc i (by omega)]
    simp [List.getD, hx]
def hexL (b : Nat) : List UInt8 := hx (nb b) 8
def hxB (b : Nat) : ByteArray := hexB (nb b)
def jf (zs : List Nat) (k : Nat) : List UInt8 := Lib.join ((zs.map hexL).take k) [44]
def jfB (zs : List Nat) (k : Nat) : ByteArray := ⟨(jf zs k).toArray⟩
def txF (zs : List Nat) : ByteArray := if zs = [] then ⟨#[110, 111, 110, 101]⟩ else jfB zs zs.length
theorem jf_one {zs : List Nat} {x : Nat} (h : zs[0]? = some x) : jf zs 1 = hexL x := by
  cases zs with
  | nil => simp at h
  | cons y r =>
    simp at h
    subst h
    simp [jf, Lib.join_one]
theorem jf_succ {zs : List Nat} {x : Nat} {k : Nat} (hk : 1 ≤ k) (h : zs[k]? = some x) : jf zs (k + 1) = jf zs k ++ (44 :: hexL x) := by
  cases zs with
  | nil => simp at h
  | cons y r =>
    obtain ⟨j, rfl⟩ : ∃ j, k = j + 1 := ⟨k - 1, by omega⟩
    simp at h
    have e : (r.map hexL).take (j + 1) = (r.map hexL).take j ++ [hexL x] := by
      rw [List.take_add_one]
      simp [h]
    simp only [jf, List.map_cons, List.take_succ_cons, Lib.join_cons, e, joinTail_append]
    simp
theorem jf_len (zs : List Nat) : ∀ k, 1 ≤ k → k ≤ zs.length → (jf zs k).length ≤ 9 * k
  | 0, h1, _ => by omega
  | 1, _, h2 => by
    obtain ⟨x, hx0⟩ := at_of_lt (show 0 < zs.length by omega)
    rw [jf_one hx0, hexL, hx_len]
    omega
  | k + 2, _, h2 => by
    obtain ⟨x, hx0⟩ := at_of_lt (show k + 1 < zs.length by omega)
    rw [jf_succ (by omega) hx0]
    have := jf_len zs (k + 1) (by omega) (by omega)
    simp [hexL, hx_len]; omega
theorem joinB_hx (zs : List Nat) : joinB (zs.map hxB) = txF zs := by
  unfold joinB txF
  by_cases h : zs = []
  · simp [h]
  · rw [if_neg h, if_neg (by simpa using h), jfB, jf, List.take_of_length_le (by simp), List.map_map]
    congr 2
def ntV (zs : List Nat) : Value := .tuple #[.string (if zs.length ≤ 256 then txF zs else ⟨#[]⟩), .bool (decide (zs.length ≤ 256))]
theorem ntV_no (zs : List Nat) (h : 256 < zs.length) : ntV zs = .tuple #[.string ⟨#[]⟩, .bool false] := by rw [ntV, if_neg (by omega), decide_eq_false (by omega)]
theorem ntV_yes (zs : List Nat) (h : zs.length ≤ 256) : ntV zs = .tuple #[.string (txF zs), .bool true] := by rw [ntV, if_pos h, decide_eq_true h]




set_option maxRecDepth 20000 in
theorem impl_NumbersText (w : World) (v : Value) (zs : List Nat) (h : XS fF w v zs) (hw : ∀ z ∈ zs, W32 z) (ht : TzC w) :
    Calls Tryz.prog 31 #[v] w (fun e w' => e = .returned (ntV zs) ∧ Below w.heap.size w w') := by
  obtain ⟨iS, hi, hz0, hz1, hz2⟩ := info_parts infoS
  obtain ⟨a, len, cap, rfl⟩ := h.shape
  obtain ⟨rfl, hm, HC⟩ := h.at
  unfold maxLen at hm
  have HT := Lib.hid ht
  clear h ht
  by_cases hlong : 256 < zs.length
  · have HR := Lib.hid (ntV_no zs hlong)
    go_enter Tryz.func31, Tryz.ntmps31
    go_wp2
    go_ret2
    exact ⟨by rw [HR.out]; first | done | rfl, Below.refl _ _⟩
  have HD := Lib.hid (fun (i : Nat) (x : Nat) (hx0 : zs[i]? = some x) w h => impl_hexOf w x (hw x (List.mem_of_getElem? hx0)) h)
  have HLN := Lib.hid (fun (v : Value) (xs : List ByteArray) (w' : World) => impl_listOrNone w' w.heap.size v xs)
  have HR := Lib.hid (ntV_yes zs (by omega))
  have hl : zs.length ≤ 256 := by omega
  clear hw
  go_enter Tryz.func31, Tryz.ntmps31
  go_wp2_with fail
  go_loopw [4, 13] (fun s i wr => ∃ k g c : Nat, k ≤ zs.length ∧ i = .int .i64 k ∧ s = .slice (some ⟨g, 0, none⟩) k c ∧ OwnX fS 9 wr w.heap.size s ((zs.take k).map hxB) ∧ Below w.heap.size w wr) (fun _ i _ => zs.length - (intOf i).toNat)
  case atStart => exact ⟨0, _, _, Nat.zero_le _, rfl, rfl, World.ownsRow_made _ _ 0 (Nat.le_refl _) (by unfold maxLen; omega) rfl, (Below.refl _ _).alloc (Nat.le_refl _) _⟩
  case round =>
    obtain ⟨k, g, c, hk, rfl, rfl, hown, hbel⟩ := hrel
    have HB := Lib.hid hbel
    have hsz := hbel.size
    have HT1 := Lib.hid (HT.out.later hbel)
    have HOW := Lib.hid hown
    have hwl : ((zs.take k).map hxB).length = k := by simp; omega
    clear hown
    by_cases hlt : k < zs.length
    · obtain ⟨x, hx0⟩ := at_of_lt hlt
      obtain ⟨b, off, rfl, hb, hc0⟩ := HC.out k x hx0
      have hc1 : wr.cell? ⟨b, off + k, none⟩ = some (.float .f32 x) := (hbel.cell (p := ⟨b, off + k, none⟩) hb).trans hc0
      have HX := Lib.hid (HD.out k x hx0 wr HT1.out)
      have HTK : Hid ((zs.take (k + 1)).map hxB = (zs.take k).map hxB ++ [hxB x]) := Lib.hid (by rw [List.take_add_one, hx0]; simp)
      have HWL := Lib.hid hwl
      clear hc0 hx0 hbel hwl
      go_wp2_with fail
      refine HX.out.mono ?_
      rintro e w2 ⟨rfl, hb2⟩
      have HB2 := Lib.hid (HB.out.trans (hb2.mono hsz))
      have HO2 := Lib.hid (HOW.out.later hb2)
      have hsz2 := HB2.out.size
      have hit : hexB (nb x) = hxB x := rfl
      rw [hit]
      clear hb2 hc1 HB HOW hit HX
      generalize hxB x = t at *
      generalize (zs.take k).map hxB = done at *
      have hdl := HWL.out
      go_wp2_with (at_builtin; refine wpList_append_own_at _ rfl (.tmp 17) (.tmp 20) 68 rfl w.heap.size 9 iS (.string ⟨#[]⟩) 1 16 Tryz.underlying68 hi hz0 hz1 hz2 rfl (by decide) (.slice (some ⟨g, 0, none⟩) k c) done.length (done.map fS) rfl (World.ownsRow.alloc HO2.out _) ⟨w2.heap.size, 0, none⟩ 1 1 [.string t] rfl rfl (news4 w2 _ _) (fun u hu => by simp at hu; subst hu; rfl) (by unfold maxLen; omega) (by omega) (by simp; omega) ?_)
      intro v3 w3 ho hg hnil hat
      obtain ⟨g1, c1, rfl, hown⟩ := own_push2 (by rw [hdl]) ho
      rw [← HTK.out] at hown
      have HO3 := Lib.hid hown
      have HB3 := Lib.hid (push_below HB2.out HO2.out hg)
      clear ho hg hnil hat hown HO2 HB2
      go_wp2
      go_roundw
      case rel => exact ⟨k + 1, g1, c1, by omega, by go_num, rfl, HO3.out, HB3.out⟩
      case measure => simp [intOf]; omega
    · obtain rfl : k = zs.length := by omega
      rw [List.take_length] at HOW
      have hlen : (Lib.join ((zs.map hxB).map (·.data.toList)) [44]).length ≤ 140737488355328 := by
        have e : (zs.map hxB).map (·.data.toList) = (zs.map hexL).take zs.length := by
          rw [List.take_of_length_le (by simp), List.map_map]
          congr 1
        rw [e]
        rcases Nat.eq_zero_or_pos zs.length with q | q
        · rw [List.eq_nil_of_length_eq_zero q]; simp [Lib.join_nil]
        · have := jf_len zs zs.length q (Nat.le_refl _)
          unfold jf at this
          omega
      have HL := Lib.hid (HLN.out _ (zs.map hxB) wr HOW.out (by simp; omega) hlen)
      have HJ := Lib.hid (joinB_hx zs)
      clear hbel hlen hwl
      go_wp2_with fail
      refine HL.out.mono ?_
      rintro e w1 ⟨rfl, hb1⟩
      have HB1 := Lib.hid (HB.out.trans (hb1.mono hsz))
      clear hb1
      rw [HJ.out]
      go_wp2
      go_ret2
      exact ⟨by rw [HR.out]; first | done | rfl, HB1.out⟩

end Go.Proofs.YtcaceplnlfmejaaGreatDoor
