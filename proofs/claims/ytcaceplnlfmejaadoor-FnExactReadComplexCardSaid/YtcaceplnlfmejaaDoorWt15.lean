/- ListText: the reference's text of a list. -/
import Derived.Test.YtcaceplnlfmejaaDoorWt14
namespace Go.Proofs.YtcaceplnlfmejaaDoor
open Go.RowKit
open Lib (itoa decDigits parseIntB)

def okZ (z : Int) : Bool := inB z (-1000000000000000) 1000000000000000
def okL (zs : List Int) : Bool := zs.all okZ && decide (zs.length ≤ 64)
/-- The text of the first k numbers. -/
def jn (zs : List Int) (k : Nat) : List UInt8 := Lib.join ((zs.map itoa).take k) [44]
def jnB (zs : List Int) (k : Nat) : ByteArray := ⟨(jn zs k).toArray⟩
def txB (zs : List Int) : ByteArray := if zs = [] then ⟨#[110, 111, 110, 101]⟩ else jnB zs zs.length
theorem okZ_len {z : Int} (h : okZ z = true) : (itoa z).length ≤ 17 := by
  simp [okZ, inB] at h
  exact (itoa_len z (by omega) (by omega)).2
theorem okL_at {zs : List Int} (h : zs.all okZ = true) {i : Nat} {x : Int} (hx : zs[i]? = some x) : okZ x = true := List.all_eq_true.1 h x (List.mem_of_getElem? hx)
theorem joinTail_append (sep x : List UInt8) (r : List (List UInt8)) : Lib.joinTail sep (r ++ [x]) = Lib.joinTail sep r ++ (sep ++ x) := by simp [Lib.joinTail]
theorem jn_one {zs : List Int} {x : Int} (h : zs[0]? = some x) : jn zs 1 = itoa x := by
  cases zs with
  | nil => simp at h
  | cons y r =>
    simp at h
    subst h
    simp [jn, Lib.join_one]
theorem jn_succ {zs : List Int} {x : Int} {k : Nat} (hk : 1 ≤ k) (h : zs[k]? = some x) : jn zs (k + 1) = jn zs k ++ (44 :: itoa x) := by
  cases zs with
  | nil => simp at h
  | cons y r =>
    obtain ⟨j, rfl⟩ : ∃ j, k = j + 1 := ⟨k - 1, by omega⟩
    simp at h
    have e : (r.map itoa).take (j + 1) = (r.map itoa).take j ++ [itoa x] := by
      rw [List.take_add_one]
      simp [h]
    simp only [jn, List.map_cons, List.take_succ_cons, Lib.join_cons, e, joinTail_append]
    simp
theorem jn_len {zs : List Int} (h : zs.all okZ = true) : ∀ k, 1 ≤ k → k ≤ zs.length → (jn zs k).length ≤ 18 * k
  | 0, h1, _ => by omega
  | 1, _, h2 => by
    obtain ⟨x, hx⟩ := at_of_lt (show 0 < zs.length by omega)
    rw [jn_one hx]
    have := okZ_len (okL_at h hx)
    omega
  | k + 2, _, h2 => by
    obtain ⟨x, hx⟩ := at_of_lt (show k + 1 < zs.length by omega)
    rw [jn_succ (by omega) hx]
    have := okZ_len (okL_at h hx)
    have := jn_len h (k + 1) (by omega) (by omega)
    simp; omega
theorem all_at (zs : List Int) (h : ∀ (i : Nat) x, zs[i]? = some x → okZ x = true) : zs.all okZ = true := by
  rw [List.all_eq_true]
  intro x hx
  obtain ⟨i, hi⟩ := List.getElem?_of_mem hx
  exact h i x hi
theorem not_all {zs : List Int} {i : Nat} {x : Int} (hx : zs[i]? = some x) (h : okZ x = false) : zs.all okZ = false := by
  cases e : zs.all okZ with
  | false => rfl
  | true => have := okL_at e hx; rw [h] at this; exact this.symm

theorem spec_l01List (w : World) (v : Value) (zs : List Int) (h : XS fI w v zs) :
    Calls Tryd.prog 41 #[v] w (fun e w' => e = .returned (.bool (okL zs)) ∧ Below w.heap.size w w') := by
  obtain ⟨a, len, cap, rfl⟩ := h.shape
  obtain ⟨rfl, hm, HC⟩ := h.at
  unfold maxLen at hm
  clear h
  have HI := Lib.hid (fun n w => spec_l00InB n (-1000000000000000) 1000000000000000 w)
  go_enter Tryd.func41, Tryd.ntmps41
  go_wp2_with fail
  go_loopw [3] (fun i wr => ∃ k : Nat, k ≤ zs.length ∧ i = .int .i64 k ∧ Hid (∀ (i : Nat) x, zs[i]? = some x → i < k → okZ x = true) ∧ Below w.heap.size w wr) (fun i _ => zs.length - (intOf i).toNat)
  case atStart => exact ⟨0, Nat.zero_le _, rfl, Lib.hid (fun _ _ _ h => by omega), Below.refl _ _⟩
  case round =>
    obtain ⟨k, hk, rfl, HA, hbel⟩ := hrel
    have HB := Lib.hid hbel
    have hsz := hbel.size
    by_cases hlt : k < zs.length
    · obtain ⟨x, hx⟩ := at_of_lt hlt
      obtain ⟨b, off, rfl, hb, hc0⟩ := HC.out k x hx
      have hc1 : wr.cell? ⟨b, off + k, none⟩ = some (.int .i64 x) := (hbel.cell (p := ⟨b, off + k, none⟩) hb).trans hc0
      have HX := Lib.hid hx
      clear hc0 hx hbel
      go_wp2_with fail
      refine (HI.out x _).mono ?_
      rintro e w1 ⟨rfl, hb1⟩
      have HB1 := Lib.hid (HB.out.trans (hb1.mono hsz))
      clear hb1 hc1
      cases hin : inB x (-1000000000000000) 1000000000000000 with
      | false =>
        have HR : Hid (okL zs = false) := Lib.hid (by rw [okL, not_all HX.out hin]; rfl)
        clear hin
        go_wp2
        go_ret
        exact ⟨by rw [HR.out]; first | done | rfl, HB1.out⟩
      | true =>
        have HN : Hid (∀ (i : Nat) x, zs[i]? = some x → i < k + 1 → okZ x = true) := Lib.hid fun i y hy hi => by
          rcases Nat.lt_or_ge i k with q | q
          · exact HA.out i y hy q
          · obtain rfl : i = k := by omega
            obtain rfl := Option.some.inj (hy.symm.trans HX.out)
            exact hin
        clear hin
        go_wp2
        go_roundw
        case rel => exact ⟨k + 1, by omega, by go_num, HN, HB1.out⟩
        case measure => simp [intOf]; omega
    · have HR : Hid (okL zs = decide ((zs.length : Int) ≤ 64)) := Lib.hid (by
        rw [okL, all_at zs (fun i x hx => HA.out i x hx (by have := (List.getElem?_eq_some_iff.1 hx).1; omega))]
        simp; omega)
      clear hbel
      go_wp2
      go_ret
      exact ⟨by rw [HR.out]; first | done | rfl, HB.out⟩

theorem spec_l01Text (w : World) (v : Value) (zs : List Int) (h : XS fI w v zs) (hok : okL zs = true) :
    Calls Tryd.prog 42 #[v] w (fun e w' => e = .returned (.string (txB zs)) ∧ Below w.heap.size w w') := by
  obtain ⟨a, len, cap, rfl⟩ := h.shape
  obtain ⟨rfl, hm, HC⟩ := h.at
  unfold maxLen at hm
  clear h
  have hall : zs.all okZ = true := by simp [okL] at hok ⊢; exact hok.1
  have h64 : zs.length ≤ 64 := by simp [okL] at hok; exact hok.2
  have HJ := Lib.hid (jn_len hall)
  have HO := Lib.hid (fun (i : Nat) (x : Int) (hx : zs[i]? = some x) => okL_at hall hx)
  clear hall hok
  have HD := Lib.hid (fun n h0 h1 w => spec_l01Dec w n h0 h1)
  by_cases h0 : zs.length = 0
  · have HR : Hid (txB zs = ⟨#[110, 111, 110, 101]⟩) := Lib.hid (by rw [txB, if_pos (List.eq_nil_of_length_eq_zero h0)])
    go_enter Tryd.func42, Tryd.ntmps42
    go_wp2
    go_ret
    exact ⟨by rw [HR.out]; first | done | rfl, Below.refl _ _⟩
  have HR : Hid (txB zs = jnB zs zs.length) := Lib.hid (by rw [txB, if_neg (fun q => h0 (by rw [q]; rfl))])
  obtain ⟨x0, hx0⟩ := at_of_lt (show 0 < zs.length by omega)
  obtain ⟨b0, off0, rfl, hb0, hc00⟩ := HC.out 0 x0 hx0
  have hc01 : w.cell? ⟨b0, off0, none⟩ = some (.int .i64 x0) := by simpa using hc00
  have hbd := okZ_len (HO.out 0 x0 hx0)
  obtain ⟨i0, i1⟩ := inB_bd (HO.out 0 x0 hx0)
  have HS0 : Hid ((⟨(itoa x0).toArray⟩ : ByteArray) = jnB zs 1) := Lib.hid (by rw [jnB, jn_one hx0])
  clear hx0 hc00 hbd
  go_enter Tryd.func42, Tryd.ntmps42
  go_wp2_with fail
  refine (HD.out x0 i0 i1 _).mono ?_
  rintro e w1 ⟨rfl, hb1⟩
  have HB1 := Lib.hid hb1
  clear hb1 hc01 i0 i1
  rw [HS0.out]
  go_wp2_with fail
  go_loopw [3, 4] (fun s i wr => ∃ k : Nat, 1 ≤ k ∧ k ≤ zs.length ∧ i = .int .i64 k ∧ s = .string (jnB zs k) ∧ Below w.heap.size w wr) (fun _ i _ => zs.length - (intOf i).toNat)
  case atStart => exact ⟨1, Nat.le_refl _, by omega, rfl, rfl, HB1.out⟩
  case round =>
    obtain ⟨k, hk1, hk, rfl, rfl, hbel⟩ := hrel
    have HB := Lib.hid hbel
    have hsz := hbel.size
    by_cases hlt : k < zs.length
    · obtain ⟨x, hx⟩ := at_of_lt hlt
      obtain ⟨b, off, e, hb, hc0⟩ := HC.out k x hx
      have hc1 : wr.cell? ⟨b, off + k, none⟩ = some (.int .i64 x) := (hbel.cell (p := ⟨b, off + k, none⟩) hb).trans hc0
      simp only [Option.some.injEq, Addr.mk.injEq] at e
      obtain ⟨rfl, rfl, _⟩ := e
      have hl1 : (jnB zs k).size ≤ 1152 := by
        have := HJ.out k hk1 hk
        have e : (jnB zs k).size = (jn zs k).length := by simp [jnB, ByteArray.size]
        omega
      have hl2 : (⟨(itoa x).toArray⟩ : ByteArray).size ≤ 17 := by
        have := okZ_len (HO.out k x hx)
        simpa [ByteArray.size] using this
      obtain ⟨i0, i1⟩ := inB_bd (HO.out k x hx)
      have HS : Hid (jnB zs k ++ (⟨#[44]⟩ ++ (⟨(itoa x).toArray⟩ : ByteArray)) = jnB zs (k + 1)) := Lib.hid (by
        simp only [jnB]
        rw [jn_succ hk1 hx]
        apply ByteArray.ext
        simp)
      clear hc0 hx hbel
      go_wp2_with fail
      refine (HD.out x i0 i1 _).mono ?_
      rintro e w2 ⟨rfl, hb2⟩
      have HB2 := Lib.hid (HB.out.trans (hb2.mono hsz))
      clear hb2 hc1 i0 i1
      generalize (⟨(itoa x).toArray⟩ : ByteArray) = t at *
      generalize jnB zs k = u at *
      go_wp2
      trace_state
      go_roundw
      case rel => exact ⟨k + 1, by omega, by omega, by go_num, by rw [← HS.out], HB2.out⟩
      case measure => simp [intOf]; omega
    · obtain rfl : k = zs.length := by omega
      clear hbel
      go_wp2
      go_ret
      exact ⟨by rw [HR.out]; first | done | rfl, HB.out⟩

end Go.Proofs.YtcaceplnlfmejaaDoor
