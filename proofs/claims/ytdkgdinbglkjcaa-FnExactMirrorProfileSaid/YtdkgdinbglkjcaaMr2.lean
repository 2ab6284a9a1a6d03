/- slices.Backward over numbers: the iterator's contract. -/
import Derived.RangeFuncBox
import Derived.RangeFuncLeaves
import Derived.Shelf.Abstract
import Derived.WalkKit
import Derived.OwnWalkIn
import Derived.TacticsInMore
import Derived.LoopNIn
import Derived.LoopIn
import Derived.Test.YtdkgdinbglkjcaaMr1
import Derived.Test.YtdkgdinbglkjcaaWk3
namespace Go.Proofs.Ytdkgdinbglkjcaa
open Fl Go.RowKit Go.Shelf

attribute [local go_sem] Oper.semAt_some

/-- What has come when k rounds are over. -/
def upto {α : Type} (f : Nat → α) (k : Nat) : List α := (List.range k).map f
theorem upto_succ {α : Type} (f : Nat → α) (k : Nat) : upto f (k + 1) = upto f k ++ [f k] := by simp [upto, List.range_succ]
theorem upto_length {α : Type} (f : Nat → α) (k : Nat) : (upto f k).length = k := by simp [upto]
/-- The number at a place. -/
def nth (zs : List Nat) (k : Nat) : Nat := zs[k]?.getD 0
/-- The places from the last to the first. -/
def bk (n : Nat) (h : 0 < n) (k : Nat) : Fin n := ⟨n - 1 - k, by omega⟩
theorem bk_at {n : Nat} (h0 : 0 < n) {q k : Nat} (h : q + 1 + k = n) : (bk n h0 k).val = q := by
  show n - 1 - k = q
  omega

/-- What a round keeps: what lay below, and the box of the slice. -/
def KB (n₀ Bs : Nat) (W W' : World) : Prop := Below n₀ W W' ∧ W'.heap[Bs]? = W.heap[Bs]?
theorem KB.refl (n₀ Bs : Nat) (W : World) : KB n₀ Bs W W := ⟨Below.refl _ _, rfl⟩
theorem KB.trans {n₀ Bs : Nat} {A B C : World} (h : KB n₀ Bs A B) (k : KB n₀ Bs B C) : KB n₀ Bs A C := ⟨h.1.trans k.1, k.2.trans h.2⟩
theorem KB.cell {n₀ Bs : Nat} {W W' : World} (h : KB n₀ Bs W W') {v : Value} (hc : W.cell? ⟨Bs, 0, none⟩ = some v) : W'.cell? ⟨Bs, 0, none⟩ = some v := by
  unfold World.cell? at hc ⊢
  rw [h.2]
  exact hc
theorem KB.put {n₀ Bs : Nat} {w : World} (hn : n₀ ≤ w.heap.size) (hb : Bs < w.heap.size) (W : World) (l : Nat) (o o' : Obj) (hl : w.heap.size ≤ l) (h : W.heap[l]? = some o) (h1 : o.isCells = false) (h2 : o.isWalk = false) : KB n₀ Bs W (W.putObj l o') :=
  ⟨belowK_b hn W l o o' hl h h1 h2, by
    have := belowK_b (w := w) (n₀ := Bs + 1) hb W l o o' hl h h1 h2
    exact this.block Bs (by omega)⟩

set_option maxRecDepth 100000 in
set_option maxHeartbeats 2000000 in
theorem back1_in (F : Fence) (n : Nat) (h8 : F.fn 96) (hro : F.round = none) (hn : 1 ≤ n) (l Bs n₀ b off cap : Nat) (zs : List Nat) (hpos : 0 < zs.length) (hreach : (zs.length : Int) ≤ 1048576) (hb : b < n₀) (J Jx : List (Fin zs.length) → World → Prop)
    (hY : ∀ pre x W, J pre W → pre.length < zs.length → YieldAt F (n - 1) Try.prog l #[.int .i64 ((x.val : Nat) : Int), .float .f32 (nth zs x.val)] W fun e W' =>
      (e = .returned (.bool true) ∧ J (pre ++ [x]) W' ∧ KB n₀ Bs W W') ∨ (e = .returned (.bool false) ∧ Jx (pre ++ [x]) W'))
    (W : World) (hBs : W.cell? ⟨Bs, 0, none⟩ = some (.slice (some ⟨b, off, none⟩) zs.length cap)) (hc : ∀ j, j < zs.length → W.cell? ⟨b, off + j, none⟩ = some (.float .f32 (nth zs j))) (h0 : J [] W) :
    CallsIn F n Try.prog 96 #[.func (.yield l) #[] #[], .pointer (some ⟨Bs, 0, none⟩)] W fun e W' => (∃ v, e = .returned v) ∧
      ((∃ ys, ys = upto (bk zs.length hpos) zs.length ∧ J ys W') ∨ (∃ pre, (∃ k, k ≤ zs.length ∧ pre = upto (bk zs.length hpos) k) ∧ Jx pre W')) := by
  refine callsIn_of_wp Try.func96 rfl h8 ?_ hro
  simp only [Try.ntmps96, List.size_toArray, List.length_cons, List.length_nil, Nat.reduceAdd, Nat.reduceSub, Array.replicate_succ, Array.replicate_zero, List.push_toArray, List.append_toArray, List.nil_append, List.cons_append]
  gi_wp2
  gi_loopw [3] (fun i wr => ∃ k p : Nat, p + k = zs.length ∧ i = .int .i64 ((p : Int) - 1) ∧ J (upto (bk zs.length hpos) k) wr ∧ KB n₀ Bs W wr)
    (fun i _ => (RowKit.intOf i + 1).toNat)
  case atStart => exact ⟨0, zs.length, by omega, rfl, h0, KB.refl _ _ _⟩
  case round =>
    obtain ⟨k, p, hp, rfl, hJs, hnx⟩ := hrel
    cases p with
    | zero =>
      obtain rfl : k = zs.length := by omega
      gi_wp2
      go_end0
      exact ⟨⟨_, rfl⟩, .inl ⟨_, rfl, hJs⟩⟩
    | succ q =>
      have hcx' : wr.cell? ⟨b, off + q, none⟩ = some (.float .f32 (nth zs q)) := (hnx.1.cell (p := ⟨b, off + q, none⟩) hb).trans (hc q (by omega))
      have hBx := hnx.cell hBs
      have hq1 : (q : Int) < zs.length := by omega
      obtain ⟨fn, tmps, assign, body, hy, hR⟩ := hY _ (bk zs.length hpos k) wr hJs (by rw [upto_length]; omega)
      rw [bk_at hpos (show q + 1 + k = zs.length by omega)] at hy
      have HP := Lib.hid hp
      have HNX := Lib.hid hnx
      clear hp hnx
      gi_wp2
      refine hR.mono ?_
      rintro e W3 (⟨rfl, hJ3, hk3⟩ | ⟨rfl, hJx3⟩)
      · gi_wp2
        go_roundw
        case rel => exact ⟨k + 1, q, by have := HP.out; omega, by first | rfl | (congr 1; omega), by rw [upto_succ]; exact hJ3, HNX.out.trans hk3⟩
        case measure => simp [RowKit.intOf]
      · gi_wp2
        refine bodyPost_ret (results_none rfl _ _ _) rfl ?_
        exact ⟨⟨_, rfl⟩, .inr ⟨_, ⟨k + 1, by have := HP.out; omega, (upto_succ _ _).symm⟩, hJx3⟩⟩

/-- The pairs that slices.Backward hands out: all, or the first k of them. -/
theorem back_stops (F : Fence) (n : Nat) (h8 : F.fn 96) (hro : F.round = none) (hn : 1 ≤ n) (Bs n₀ : Nat) (sv : Value) (zs : List Nat) (hpos : 0 < zs.length) (hreach : (zs.length : Int) ≤ 1048576) (w : World) (hBs : Bs < w.heap.size)
    (hc : w.cell? ⟨Bs, 0, none⟩ = some sv) (hI : FS w sv zs) (hB : ∀ b off l c, sv = .slice (some ⟨b, off, none⟩) l c → b < n₀) :
    SeqStopsK F n Try.prog 96 #[.pointer (some ⟨Bs, 0, none⟩)] (fun x : Fin zs.length => #[Value.int .i64 ((x.val : Nat) : Int), Value.float .f32 (nth zs x.val)]) (KB n₀ Bs) (fun ys => ys = upto (bk zs.length hpos) zs.length)
      (fun pre => ∃ k, k ≤ zs.length ∧ pre = upto (bk zs.length hpos) k) zs.length w := fun l J Jx W hW _ _ hY h0 => by
  have hc' := (hW.cell (p := ⟨Bs, 0, none⟩) hBs).trans hc
  obtain ⟨a, len, cap, rfl, hl, hm, h⟩ := hI
  subst hl
  rcases h with h | ⟨b, off, rfl, hb, hcs⟩
  · omega
  · have hb0 := hB _ _ _ _ rfl
    exact back1_in F n h8 hro hn l Bs n₀ b off cap zs hpos hreach hb0 J Jx hY W hc' (fun j hj => by
      have := hcs j hj
      rw [(hW.cell (p := ⟨b, off + j, none⟩) hb), this]
      simp [nth, List.getD]) h0

theorem back_in (F : Fence) (n : Nat) (h6 : F.fn 80) (hro : F.round = none) (a : Option Addr) (len cap : Nat) (w : World) :
    CallsIn F n Try.prog 80 #[.slice a len cap] w fun e w' => e = .returned (.func (.func 96) #[] #[.pointer (some ⟨w.heap.size, 0, none⟩)]) ∧ w' = w.alloc (.cells #[.slice a len cap] 22) := by
  refine callsIn_of_wp Try.func80 rfl h6 ?_ hro
  simp only [Try.ntmps80, List.size_toArray, List.length_cons, List.length_nil, Nat.reduceAdd, Nat.reduceSub, Array.replicate_succ, Array.replicate_zero, List.push_toArray, List.append_toArray, List.nil_append, List.cons_append]
  gi_wp2
  go_ret
  exact ⟨rfl, rfl⟩

end Go.Proofs.Ytdkgdinbglkjcaa
