/- A number widened and made narrow again; texts of numbers read back; what is flushed. -/
import Derived.Test.YtcaceplnlfmejaaGreatDoorWt36
import Derived.Test.YtcaceplnlfmejaaGreatDoorWt33
import Derived.Test.YtcaceplnlfmejaaGreatDoorWr1
import Derived.Test.YtcaceplnlfmejaaGreatDoorWk6
namespace Go.Proofs.YtcaceplnlfmejaaGreatDoor
open Fl Go.RowKit Ieee

theorem narrow_nan {b : Nat} (h : nan FloatKind.f64.format b = true) (w : World) : cls .f32 (cv .f64 b .f32 w) = none := by
  rw [cls_cv (s := .f64) (d := .f32) w (by decide) (fun hf => by rw [not_nan_of_fin hf] at h; cases h), cls_none h]; rfl
theorem tr_lt {x : Nat} (h : finb FloatKind.f32.format x = true) : tr .f32 .f64 x < 2 ^ 64 := by
  have : tr .f32 .f64 x = Ieee.double.write (Ieee.single.read x) := rfl
  rw [this, (conv_fin (f := Ieee.single) (g := Ieee.double) (by decide) (finb_iff.1 h)).2]; exact word_lt64 _ (rg_lt _ _ _)
theorem cv_tr {x : Nat} (h : finb FloatKind.f32.format x = true) (w : World) : cv .f32 x .f64 w = tr .f32 .f64 x := cv_wide (not_nan_of_fin (finb_iff.1 h)) w
theorem tr_fin {x : Nat} (h : finb FloatKind.f32.format x = true) : fin Ieee.double (tr .f32 .f64 x) := (widen (finb_iff.1 h)).1
theorem two_FS (x u : Nat) (w : World) : FS (w.alloc (.cells #[.float .f32 x, .float .f32 u] 28)) (.slice (some ⟨w.heap.size, 0, none⟩) 2 2) [x, u] := by
  refine ⟨_, _, _, rfl, rfl, by decide, .inr ⟨_, _, rfl, by simp, fun i hi => ?_⟩⟩
  match i, hi with
  | 0, _ => simp [go_sem]
  | 1, _ => simp [go_sem]
theorem two_any (x y : Nat) : [x, y].any notFin = !(finb FloatKind.f32.format y && finb FloatKind.f32.format x) := by
  unfold notFin
  cases hx : finb FloatKind.f32.format x <;> cases hy : finb FloatKind.f32.format y <;> simp [hx, hy]

theorem back_fin {x : Nat} (hx : fin single x) (hl : W32 x) : tr .f64 .f32 (tr .f32 .f64 x) = x := by
  obtain ⟨h1, h2, h3⟩ := widen hx
  have e : tr .f64 .f32 (tr .f32 .f64 x) = single.write (double.read (double.write (single.read x))) := rfl
  rw [e, (conv_fin (f := double) (g := single) (by decide) h1).2, h3]
  have hn : num double (rung double (double.write (single.read x))) = num single (rung single x) * 2 ^ gapP := by
    have a1 := num_abs double (double.write (single.read x))
    have a2 := num_abs single x
    rw [h2, Int.natAbs_mul] at a1
    rw [Int.ofNat_inj.1 a1, Int.ofNat_inj.1 a2, Int.natAbs_pow]
    generalize gapP = g
    rfl
  rw [hn, rg_of_num (f := single) (rung single x) double.leastPlace gapP (by decide +kernel) (Nat.le_of_lt hx)]
  exact word_of (f := single) hl

theorem inf_words {x : Nat} (hx : rung single x = single.infRung) (hl : W32 x) : x = 2139095040 ∨ x = 4286578688 := by
  have e := word_of (f := single) hl
  rw [hx] at e
  cases h : ng single x
  · rw [h] at e; left; rw [← e]; decide
  · rw [h] at e; right; rw [← e]; decide
/-- float32(float64(x)) is x. -/
theorem cls_back (x : Nat) (hl : W32 x) (w0 w1 : World) : cls .f32 (cv .f64 (cv .f32 x .f64 w0) .f32 w1) = cls .f32 x := by
  rcases kinds single x with h | h | h
  · have e : cv .f32 x .f64 w0 = tr .f32 .f64 x := cv_wide (not_nan_of_fin h) w0
    have hf : fin double (tr .f32 .f64 x) := (widen h).1
    rw [e, cls_cv (s := .f64) (d := .f32) w1 (by decide) (fun _ => by rw [back_fin h hl]; exact h), cls_fin (k := .f64) hf, cls_fin (k := .f32) h]
    simp only [Option.map_some, back_fin h hl]
  · rcases inf_words h hl with rfl | rfl
    · have e : cv .f32 2139095040 .f64 w0 = 9218868437227405312 := (cv_wide (by decide) w0).trans (by decide +kernel)
      rw [e, cls_cv (s := .f64) (d := .f32) w1 (by decide) (fun q => absurd q (by unfold fin; decide +kernel))]
      decide +kernel
    · have e : cv .f32 4286578688 .f64 w0 = 18442240474082181120 := (cv_wide (by decide) w0).trans (by decide +kernel)
      rw [e, cls_cv (s := .f64) (d := .f32) w1 (by decide) (fun q => absurd q (by unfold fin; decide +kernel))]
      decide +kernel
  · have h0 : cls .f32 x = none := cls_none h
    have h1 : cls .f64 (cv .f32 x .f64 w0) = none := by rw [cls_widen, h0]; rfl
    have h2 : nan FloatKind.f64.format (cv .f32 x .f64 w0) = true := by
      unfold cls at h1
      cases hn : nan FloatKind.f64.format (cv .f32 x .f64 w0)
      · rw [hn] at h1; cases h1
      · rfl
    rw [cls_cv (s := .f64) (d := .f32) w1 (by decide) (fun q => by rw [not_nan_of_fin q] at h2; cases h2), h1, h0]
    rfl
/-- The same class: the same number. -/
theorem same_cls {a b : Nat} (h : cls .f32 a = cls .f32 b) : same a b = true := by
  unfold same bt
  unfold cls at h
  cases ha : nan FloatKind.f32.format a <;> cases hb : nan FloatKind.f32.format b <;> rw [ha, hb] at h <;> simp at h ⊢
  exact_mod_cast h
theorem nb_nb (b : Nat) : nb (nb b) = nb b := by
  cases h : nan FloatKind.f32.format b
  · have e : nb b = b := by unfold nb; rw [bt_not h]; omega
    rw [e, e]
  · have e : nb b = 2143289344 := by unfold nb; rw [bt_nan h]; rfl
    rw [e]; decide
theorem same_nb (b : Nat) : same (nb b) b = true := by
  unfold same
  rw [nb_bt, nb_bt b, nb_nb]
  simp
theorem same_self (b : Nat) : same b b = true := by unfold same; simp
theorem sub_flush (b : Nat) (hw : W32 b) : sub (flush b) = false := by
  cases h : sub b
  · rw [flush_not hw h]; exact h
  · rw [flush_sub h]
    cases ng single b <;> decide
theorem flush_same (b : Nat) (hw : W32 b) : (sub b == same b (flush b)) = false := by
  cases h : sub b
  · rw [flush_not hw h, same_self]; rfl
  · have hn := sub_not_nan h
    have e : same b (flush b) = false := by
      have hz : nan FloatKind.f32.format (flush b) = false := by rw [flush_sub h]; cases ng single b <;> decide
      unfold same
      rw [bt_not hn, bt_not hz, beq_eq_false_iff_ne]
      intro q
      have q' : b = flush b := by exact_mod_cast q
      have := sub_flush b hw
      rw [← q', h] at this
      cases this
    rw [e]; rfl
theorem flush_lt (b : Nat) (hw : W32 b) : W32 (flush b) := by
  cases h : sub b
  · rw [flush_not hw h]; exact hw
  · rw [flush_sub h]; unfold W32; cases ng single b <;> simp

/-- Words with marks between them are taken apart again. -/
theorem pcs_last (c : UInt8) : ∀ (u acc : List UInt8), c ∉ u → pcs c acc u = [acc ++ u]
  | [], acc, _ => by simp [pcs]
  | b :: u, acc, h => by
    have h1 : ¬ b = c := fun e => h (by rw [e]; exact List.mem_cons_self)
    have h2 : c ∉ u := fun q => h (List.mem_cons_of_mem _ q)
    rw [pcs, if_neg h1, pcs_last c u _ h2]
    simp
theorem pcs_word (c : UInt8) : ∀ (u acc r : List UInt8), c ∉ u → pcs c acc (u ++ c :: r) = (acc ++ u) :: pcs c [] r
  | [], acc, r, _ => by simp [pcs]
  | b :: u, acc, r, h => by
    have h1 : ¬ b = c := fun e => h (by rw [e]; exact List.mem_cons_self)
    have h2 : c ∉ u := fun q => h (List.mem_cons_of_mem _ q)
    rw [List.cons_append, pcs, if_neg h1, pcs_word c u _ r h2]
    simp
theorem pcs_join (c : UInt8) : ∀ (xs : List (List UInt8)), xs ≠ [] → (∀ u ∈ xs, c ∉ u) → pcs c [] (Lib.join xs [c]) = xs
  | [], h, _ => absurd rfl h
  | [u], _, h => by
    rw [Lib.join_one, pcs_last c u [] (h u (by simp))]
    rfl
  | u :: v :: r, _, h => by
    have e : Lib.join (u :: v :: r) [c] = u ++ c :: Lib.join (v :: r) [c] := by
      unfold Lib.join
      simp [List.intercalate]
    rw [e, pcs_word c u [] _ (h u (by simp)), pcs_join c (v :: r) (by simp) (fun x hx => h x (List.mem_cons_of_mem _ hx))]
    rfl
theorem hB_ne (d : Nat) (h : d < 16) : hB d ≠ 44 := by
  have : ∀ n : Fin 16, hB n.1 ≠ 44 := by decide
  exact this ⟨d, h⟩
theorem hx_no (n : Nat) : ∀ j, (44 : UInt8) ∉ hx n j
  | 0 => by simp [hx]
  | j + 1 => by
    rw [hx, List.mem_cons, not_or]
    exact ⟨fun e => hB_ne _ (Nat.mod_lt _ (by decide)) e.symm, hx_no n j⟩
theorem words_tx (zs : List Nat) : wordsB (txF zs) = zs.map hxB := by
  cases zs with
  | nil => rfl
  | cons z r =>
    have hne : txF (z :: r) ≠ nonB := by
      intro q
      have q2 : (txF (z :: r)).data.toList.length = 4 := by rw [q]; rfl
      have e : (txF (z :: r)).data.toList = Lib.join ((z :: r).map hexL) [44] := by
        rw [txF, if_neg (by simp), jfB, jf, List.take_of_length_le (by simp)]
      rw [e] at q2
      cases r with
      | nil => rw [List.map_cons, List.map_nil, Lib.join_one, hexL, hx_len] at q2; omega
      | cons y r =>
        have e3 : Lib.join ((z :: y :: r).map hexL) [44] = hexL z ++ 44 :: Lib.join ((y :: r).map hexL) [44] := by
          unfold Lib.join
          simp [List.intercalate]
        rw [e3, List.length_append, hexL, hx_len] at q2
        omega
    rw [wordsB, if_neg hne, partsB]
    have e : (txF (z :: r)).data.toList = Lib.join ((z :: r).map hexL) [44] := by
      rw [txF, if_neg (by simp), jfB, jf, List.take_of_length_le (by simp)]
    rw [e, pcs_join 44 _ (by simp) (fun u hu => by obtain ⟨x, _, rfl⟩ := List.mem_map.1 hu; exact hx_no _ 8), List.map_map]
    rfl
theorem rh_hx {z : Nat} (h : W32 z) : rh (hxB z) = some (nb z) := by
  rw [hxB, rh_hexB (nb_lt h), if_pos (nb_nb z)]
/-- The text of numbers is read back. -/
theorem rn_tx (zs : List Nat) (hw : ∀ z ∈ zs, W32 z) (hl : zs.length ≤ 256) : rnOk (txF zs) = true ∧ rnL (txF zs) = zs.map nb := by
  have h1 : rnOk (txF zs) = true := by
    rw [rnOk, words_tx, List.length_map, decide_eq_true hl, Bool.and_true, List.all_eq_true]
    intro p hp
    obtain ⟨z, hz, rfl⟩ := List.mem_map.1 hp
    show (rh (hxB z)).isSome = true
    rw [rh_hx (hw z hz)]
    rfl
  refine ⟨h1, ?_⟩
  rw [rnL_yes h1, words_tx]
  clear h1 hl
  induction zs with
  | nil => rfl
  | cons z r ih =>
    rw [List.map_cons, List.filterMap_cons, rh_hx (hw z (by simp)), List.map_cons, ih (fun y hy => hw y (List.mem_cons_of_mem _ hy))]

theorem impl_NarrowNumber (b : Nat) (w : World) : Calls Tryz.prog 36 #[.float .f64 b] w (fun e w' => e = .returned (.float .f32 (cv .f64 b .f32 w)) ∧ ∃ n, w' = w.drewN n) := by
  go_enter Tryz.func36, Tryz.ntmps36
  go_wp2
  go_ret
  exact ⟨rfl, _, rfl⟩

end Go.Proofs.YtcaceplnlfmejaaGreatDoor
