/- slices.Delete of one number, on a list that the call owns. -/
import Derived.Test.YtdkgdinbglkjcaaWk26
import Derived.Deep.RegionLaw
import Derived.Lib.SliceRun
namespace Go.Proofs.Ytdkgdinbglkjcaa
open Fl Go.RowKit

theorem list_lay {α : Type} (xs : List α) (v : α) (vs : List α) (o : Nat) (h : o < xs.length) :
    (xs.set o v).take (o + 1) ++ vs ++ (xs.set o v).drop (o + 1 + vs.length) = xs.take o ++ v :: vs ++ xs.drop (o + (v :: vs).length) := by
  rw [List.take_add_one, List.getElem?_set_self h, List.take_set_of_le (Nat.le_refl _), List.drop_set_of_lt (by omega), List.length_cons]
  simp only [Option.toList_some, List.append_assoc, List.cons_append, List.nil_append]
  rw [show o + 1 + vs.length = o + (vs.length + 1) by omega]
theorem own_lay {B g n cap : Nat} : ∀ (vs : List Value) (o : Nat) (w : World) (xs : List Value), w.ownsRow B 23 1 (.slice (some ⟨g, 0, none⟩) n cap) n xs → o + vs.length ≤ n →
    (w.setCells g o vs).ownsRow B 23 1 (.slice (some ⟨g, 0, none⟩) n cap) n (xs.take o ++ vs ++ xs.drop (o + vs.length)) ∧ w.grownBy (w.setCells g o vs) (some g)
  | [], o, w, xs, h, _ => ⟨by rw [List.length_nil, Nat.add_zero, List.append_nil, List.take_append_drop]; exact h, gb_refl _ _⟩
  | v :: vs, o, w, xs, h, hl => by
    rw [List.length_cons] at hl
    have hs := h.stored o v
    have ih := own_lay vs (o + 1) (w.setCell ⟨g, o, none⟩ v) (xs.set o v) hs.1 (by omega)
    rw [list_lay xs v vs o (by have := h.1; omega)] at ih
    exact ⟨ih.1, gb_trans hs.2 ih.2⟩
theorem own_cut {w : World} {B g n cap m : Nat} {xs : List Value} (h : w.ownsRow B 23 1 (.slice (some ⟨g, 0, none⟩) n cap) n xs) (hm : m ≤ n) :
    w.ownsRow B 23 1 (.slice (some ⟨g, 0, none⟩) m cap) m (xs.take m) := by
  have hx := h.1
  rcases h.2 with ⟨h', _⟩ | ⟨g', cap', cur, h', hb, hg, hnc, hcm, hcs, htake⟩
  · simp at h'
  · simp only [Value.slice.injEq, Option.some.injEq, Addr.mk.injEq, and_true, true_and] at h'
    obtain ⟨rfl, rfl⟩ := h'
    refine ⟨by rw [List.length_take]; omega, .inr ⟨g, cap, cur, rfl, hb, hg, Nat.le_trans hm hnc, hcm, hcs, ?_⟩⟩
    rw [← htake, List.take_take, Nat.mul_one, Nat.mul_one, Nat.min_eq_left hm]
theorem drop_list {α : Type} (xs : List α) (z : α) (i : Nat) (hi : i < xs.length) :
    ((xs.take i ++ xs.drop (i + 1) ++ xs.drop (i + (xs.drop (i + 1)).length)).take (xs.length - 1) ++ [z] ++ (xs.take i ++ xs.drop (i + 1) ++ xs.drop (i + (xs.drop (i + 1)).length)).drop (xs.length - 1 + [z].length)).take (xs.length - 1) = xs.take i ++ xs.drop (i + 1) := by
  have h1 : (xs.take i ++ xs.drop (i + 1)).length = xs.length - 1 := by simp; omega
  have hA : (xs.take i ++ xs.drop (i + 1) ++ xs.drop (i + (xs.drop (i + 1)).length)).take (xs.length - 1) = xs.take i ++ xs.drop (i + 1) := by rw [List.take_append_of_le_length (by omega), List.take_of_length_le (by omega)]
  rw [hA, List.append_assoc _ [z], List.take_append_of_le_length (by omega), List.take_of_length_le (by omega)]
theorem cells_ok {w : World} {B g n cap : Nat} {xs : List Value} (h : w.ownsRow B 23 1 (.slice (some ⟨g, 0, none⟩) n cap) n xs) (j : Nat) (hj : j < n) : (w.cell? ⟨g, j, none⟩).isSome = true ∧ w.frozen? ⟨g, j, none⟩ = false := by
  have hx := h.1
  rw [h.cellAt j (by omega)]
  exact ⟨by simp; omega, h.frozenAt j⟩

set_option maxRecDepth 8000 in
set_option maxHeartbeats 1600000 in
theorem delete_own (w : World) (v : Value) (B : Nat) (zs : List Nat) (i : Nat) (h : w.ownsRow B 23 1 v zs.length (zs.map (Value.float .f32))) (hi : i < zs.length) (hs : zs.length ≤ 1000) :
    Calls Try.prog 87 #[v, .int .i64 i, .int .i64 ((i : Int) + 1)] w (fun e w' => ∃ v', e = .returned v' ∧ v'.ownBlock = v.ownBlock ∧ w'.ownsRow B 23 1 v' (zs.length - 1) ((zs.take i ++ zs.drop (i + 1)).map (Value.float .f32)) ∧ w.grownBy w' v.ownBlock) := by
  rcases h.2 with ⟨rfl, hn⟩ | ⟨g, cap, cur, rfl, hlo, _, hnc, hcm, _⟩
  · omega
  unfold maxLen at hcm
  have q2 : (cap : Int) ≤ 9223372036854775807 := by omega
  clear hcm
  obtain ⟨i0, hif, hz0, hz1, hz2⟩ := info_parts infoF
  have HD : Hid (w.drew.ownsRow B 23 1 (.slice (some ⟨g, 0, none⟩) zs.length cap) zs.length (zs.map (Value.float .f32))) := Lib.hid (own_later h (below_dn (Below.refl _ _) 1))
  obtain ⟨news, hnews⟩ : ∃ news, news = (zs.map (Value.float .f32)).drop (i + 1) := ⟨_, rfl⟩
  have hlen : news.length = zs.length - (i + 1) := by rw [hnews]; simp
  have L1 := own_lay news i w.drew _ HD.out (by omega)
  obtain ⟨ad, had, hsrc⟩ : ∃ ad : Addr, (if cap = i + 1 then (some ⟨g, 0, none⟩ : Option Addr) else some ⟨g, i + 1, none⟩) = some ad ∧ Hid (∀ t u, news[t]? = some u → w.drew.cell? (ad.add t) = some u) := by
    by_cases hc : cap = i + 1
    · refine ⟨⟨g, 0, none⟩, by rw [if_pos hc], Lib.hid fun t u hu => ?_⟩
      have h0 : news.length = 0 := by omega
      rw [List.length_eq_zero_iff.1 h0] at hu
      simp at hu
    · refine ⟨⟨g, i + 1, none⟩, by rw [if_neg hc], Lib.hid fun t u hu => ?_⟩
      have ht : t < news.length := (List.getElem?_eq_some_iff.1 hu).1
      rw [hnews, List.getElem?_drop] at hu
      have := HD.out.cellAt (i + 1 + t) (by omega)
      rw [Addr.add_lit]
      exact this.trans hu
  have s2 : Hid (∀ u ∈ news, u.oneCell' = true) := Lib.hid fun u hu => map_cells zs u (by rw [hnews] at hu; exact List.mem_of_mem_drop hu)
  have s3 : Hid (∀ t, t < news.length → (w.drew.cell? ⟨g, 0 + i * 1 + t, none⟩).isSome = true ∧ w.drew.frozen? ⟨g, 0 + i * 1 + t, none⟩ = false) := Lib.hid fun t ht => by
    rw [show 0 + i * 1 + t = i + t by omega]
    exact cells_ok HD.out _ (by omega)
  obtain ⟨W1, hW1⟩ : ∃ W1, W1 = w.drew.setCells g (0 + i * 1) news := ⟨_, rfl⟩
  have e1 : 0 + i * 1 = i := by omega
  rw [← e1, ← hW1, e1] at L1
  obtain ⟨O1, G1⟩ := L1
  have L2 := own_lay [Value.float .f32 0] (zs.length - 1) W1 _ O1 (by simp; omega)
  have hcl : ∀ ty, (Builtin.clear_ #[22] ty #[.slice (some ⟨g, zs.length - 1, none⟩) 1 (cap - (zs.length - 1))]).run Try.prog W1 = .ok (.tuple #[]) (W1.setCells g (zs.length - 1) (List.replicate 1 (Value.float .f32 0))) :=
    fun ty => Lib.run_clear_slice W1 _ _ ty _ Try.underlying22 (by intro w; simp [go_sem]) rfl rfl g (zs.length - 1) 1 _ (by omega) (fun t ht => (cells_ok O1 _ (by omega)).1) (fun t ht => (cells_ok O1 _ (by omega)).2)
  have e2 : i + (zs.length - (i + 1)) = zs.length - 1 := by omega
  have hcm : ∀ ty, (Builtin.clear_ #[22] ty #[.slice (some ⟨g, i + (zs.length - (i + 1)), none⟩) (zs.length - (i + (zs.length - (i + 1)))) (cap - (i + (zs.length - (i + 1))))]).run Try.prog W1 = .ok (.tuple #[]) (W1.setCells g (zs.length - 1) (List.replicate 1 (Value.float .f32 0))) := by
    rw [e2, show zs.length - (zs.length - 1) = 1 by omega]
    exact hcl
  have E2 := Lib.hid e2
  clear hcl e1 e2
  have HF : Hid (∀ w', w' = W1.setCells g (zs.length - 1) (List.replicate 1 (Value.float .f32 0)) → w'.ownsRow B 23 1 (.slice (some ⟨g, 0, none⟩) (zs.length - 1) cap) (zs.length - 1) ((zs.take i ++ zs.drop (i + 1)).map (Value.float .f32)) ∧ w.grownBy w' (some g)) := Lib.hid fun w' hw' => by
    subst hw'
    refine ⟨?_, gb_trans (gb_trans (gb_below (below_dn (Below.refl _ _) 1) _) G1) L2.2⟩
    have := own_cut L2.1 (Nat.sub_le zs.length 1)
    rw [hnews] at this
    have hd := drop_list (zs.map (Value.float .f32)) (Value.float .f32 0) i (by simpa using hi)
    rw [List.length_map] at hd
    rw [hd] at this
    rw [List.map_append, List.map_take, List.map_drop]
    exact this
  have hW : Hid (W1 = w.drew.setCells g (0 + i * 1) news) := Lib.hid hW1
  have S1 : Hid (news.length = (zs.length - (i + 1)) * 1) := Lib.hid (by omega)
  have q0 : (i : Int) < zs.length := by omega
  have q1 : (zs.length : Int) ≤ cap := by omega
  have q3 : (0 : Int) ≤ (i : Int) + 1 := by omega
  have q4 : (i : Int) + 1 ≤ zs.length := by omega
  have hic : i ≤ cap := by omega
  have hjc : i + 1 ≤ cap := by omega
  clear h hW1 O1 G1 L2 hnews hlen HD
  go_enter Try.func87, Try.ntmps87
  go_wp2_with fail
  go_region_law (refine step_append_room rfl (.tmp 22) (.tmp 25) 22 rfl 23 i0 1 Try.underlying22 hif hz1 g 0 i cap (by simp [Act.eval, Act.put]) ad (zs.length - (i + 1)) (cap - (i + 1)) news (by simp [Act.eval, Act.put]) S1.out hsrc.out s2.out (by omega) s3.out ?_; rw [← hW.out])
  go_wp2
  go_ret
  exact ⟨_, rfl, rfl, by rw [E2.out]; exact (HF.out _ rfl).1, (HF.out _ rfl).2⟩

end Go.Proofs.Ytdkgdinbglkjcaa
