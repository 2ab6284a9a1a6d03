/- Lists of numbers: copies, the comparison of two lists, sums; the laws on sums of numbers. -/
import Derived.Test.YtdkgdinbglkjcaaWk3
import Derived.Test.YtdkgdinbglkjcaaSft
namespace Go.Proofs.Ytdkgdinbglkjcaa
open Fl Go.RowKit

theorem infoF : (Try.prog.info? 23).map (fun i => (i.zero, i.size, i.bytes)) = some (some (.float .f32 0), 1, 4) := by kernel_rfl
/-- The call's own slice of numbers. -/
def OwnF (w : World) (B : Nat) (v : Value) (zs : List Nat) : Prop := w.ownsRow B 23 1 v zs.length (zs.map (Value.float .f32))

theorem OwnF.later {w w' : World} {B : Nat} {v : Value} {zs : List Nat} (h : OwnF w B v zs) (hb : Below w.heap.size w w') : OwnF w' B v zs := by
  refine ⟨h.1, ?_⟩
  rcases h.2 with q | ⟨g, cap, cur, e, hB, hg, r⟩
  · exact .inl q
  · have hlt : g < w.heap.size := by
      rcases Nat.lt_or_ge g w.heap.size with q | q
      · exact q
      · rw [Array.getElem?_eq_none q] at hg; cases hg
    exact .inr ⟨g, cap, cur, e, hB, (hb.block g hlt).trans hg, r⟩

theorem OwnF.FS {w : World} {B : Nat} {v : Value} {zs : List Nat} (h : OwnF w B v zs) : FS w v zs := by
  have h' := h
  rcases h.2 with ⟨rfl, hn⟩ | ⟨g, cap, cur, rfl, hB, hg, hnc, hcm, _⟩
  · exact ⟨none, 0, 0, rfl, hn, Nat.zero_le _, .inl rfl⟩
  · have hlt : g < w.heap.size := by
      rcases Nat.lt_or_ge g w.heap.size with q | q
      · exact q
      · rw [Array.getElem?_eq_none q] at hg; cases hg
    refine ⟨_, _, _, rfl, rfl, Nat.le_trans hnc hcm, .inr ⟨g, 0, rfl, hlt, fun i hi => ?_⟩⟩
    have := World.ownsRow.cellAt h' i (by omega)
    rw [Nat.zero_add, this, List.getElem?_map, List.getElem?_eq_getElem hi, getD_lt hi]; rfl

/-- A copy, k elements of it done. -/
def cpl (zs : List Nat) (k : Nat) : List Value := (zs.take k).map (Value.float .f32) ++ List.replicate (zs.length - k) (Value.float .f32 0)
theorem cpl_zero (zs : List Nat) : (madeCells (Value.float .f32 0).cells (zs.length * 1)).toList = cpl zs 0 := by
  rw [Nat.mul_one]
  have : (Value.float .f32 0).cells = #[Value.float .f32 0] := rfl
  rw [this, toList_madeCells_one]
  simp [cpl]
theorem cpl_full (zs : List Nat) : cpl zs zs.length = zs.map (Value.float .f32) := by simp [cpl]
theorem cpl_get {zs : List Nat} {k : Nat} (h : k < zs.length) : (cpl zs k)[k]? = some (Value.float .f32 0) := by
  unfold cpl
  rw [List.getElem?_append_right (by simp; omega)]
  simp [List.getElem?_replicate]; omega
theorem cpl_set {zs : List Nat} {k : Nat} (h : k < zs.length) : (cpl zs k).set k (Value.float .f32 (zs.getD k 0)) = cpl zs (k + 1) := by
  unfold cpl
  have hl : ((zs.take k).map (Value.float .f32)).length = k := by simp; omega
  rw [List.set_append_right _ _ (by omega), hl, Nat.sub_self]
  have e : zs.length - k = (zs.length - (k + 1)) + 1 := by omega
  rw [e, List.replicate_succ, List.set_cons_zero, List.take_succ_eq_append_getElem h, List.map_append, getD_lt h]
  simp

/-- What is known of a slice that is read: where each element lies. -/
theorem FS.at {w : World} {a : Option Addr} {len cap : Nat} {zs : List Nat} (h : FS w (.slice a len cap) zs) : len = zs.length ∧ len ≤ maxLen ∧
    Hid (∀ i, i < len → ∃ b off, a = some ⟨b, off, none⟩ ∧ b < w.heap.size ∧ w.cell? ⟨b, off + i, none⟩ = some (.float .f32 (zs.getD i 0))) := by
  obtain ⟨a', len', cap', ev, hl, hm, h⟩ := h
  simp only [Value.slice.injEq] at ev
  obtain ⟨rfl, rfl, rfl⟩ := ev
  refine ⟨hl.symm, hm, Lib.hid fun i hi => ?_⟩
  rcases h with h | ⟨b, off, rfl, hb, hc⟩
  · omega
  · exact ⟨b, off, rfl, hb, hc i hi⟩
theorem FS.shape {w : World} {v : Value} {zs : List Nat} (h : FS w v zs) : ∃ a len cap, v = .slice a len cap := by
  obtain ⟨a, len, cap, e, _⟩ := h; exact ⟨a, len, cap, e⟩

theorem toFloat32S_any (w : World) (v : Value) (zs : List Nat) (h : FS w v zs) (hlen : zs.length ≤ 1048576) :
    Calls Try.prog 18 #[v] w (fun e w' => ∃ v', e = .returned v' ∧ OwnF w' w.heap.size v' zs ∧ Below w.heap.size w w') := by
  obtain ⟨i0, hi, hz0, hz1, hz2⟩ := info_parts infoF
  obtain ⟨a, len, cap, rfl⟩ := h.shape
  obtain ⟨rfl, _, HC⟩ := h.at
  have H0 := Lib.hid (cpl_zero zs)
  clear h
  go_enter Try.func18, Try.ntmps18
  go_wp2_with (at_make; refine wpList_make_full _ rfl _ _ 22 rfl w.heap.size 23 i0 (.float .f32 0) 1 Try.underlying22 hi hz0 hz1 .i64 .i64 zs.length zs.length zs.length rfl rfl rfl rfl (by rw [hz2]; omega) (by unfold maxLen; omega) (Nat.le_refl _) ?_; intro w1 hown hgrow)
  rw [H0.out] at hown
  have HB := Lib.hid ((Below.refl w.heap.size w).grown hgrow (Nat.le_refl _) (fun k hk => by cases hk))
  have HO := Lib.hid hown
  clear hown hgrow
  go_loopw [4] (fun i wr => ∃ k : Nat, k ≤ zs.length ∧ i = .int .i64 k ∧ wr.ownsRow w.heap.size 23 1 (.slice (some ⟨w.heap.size, 0, none⟩) zs.length zs.length) zs.length (cpl zs k) ∧ Below w.heap.size w wr) (fun i _ => zs.length - (intOf i).toNat)
  case atStart => exact ⟨0, Nat.zero_le _, rfl, HO.out, HB.out⟩
  case round =>
    obtain ⟨k, hk, rfl, hown, hbel⟩ := hrel
    by_cases hlt : k < zs.length
    · obtain ⟨b, off, rfl, hb, hc0⟩ := HC.out k hlt
      have hc : wr.cell? ⟨b, off + k, none⟩ = some (.float .f32 (zs.getD k 0)) := (hbel.cell (p := ⟨b, off + k, none⟩) hb).trans hc0
      have ho : wr.cell? ⟨w.heap.size, k, none⟩ = some (.float .f32 0) := (hown.cellAt k (by omega)).trans (cpl_get hlt)
      have hf : wr.frozen? ⟨w.heap.size, k, none⟩ = false := hown.frozenAt k
      have hst := hown.stored k (.float .f32 (zs.getD k 0))
      have HS := Lib.hid (show _ ∧ _ from ⟨hst.1, hbel.setCell (p := ⟨w.heap.size, k, none⟩) (Nat.le_refl _) (.float .f32 (zs.getD k 0))⟩)
      have HE := Lib.hid (cpl_set hlt)
      clear hst hown hbel hc0
      generalize zs.getD k 0 = z at *
      go_wp2
      go_roundw
      case rel => exact ⟨k + 1, by omega, by go_num, by rw [← HE.out]; exact HS.out.1, HS.out.2⟩
      case measure => simp [intOf]; omega
    · have : k = zs.length := by omega
      subst this
      rw [cpl_full] at hown
      have HO2 := Lib.hid hown
      have HB2 := Lib.hid hbel
      clear hown hbel
      go_wp2
      go_ret
      exact ⟨_, rfl, HO2.out, HB2.out⟩

theorem eqFloat32S_true (w : World) (v v' : Value) (zs ys : List Nat) (h : FS w v zs) (h' : FS w v' ys) (hl : zs.length = ys.length) (hc : ∀ i, i < zs.length → cls .f32 (zs.getD i 0) = cls .f32 (ys.getD i 0)) :
    Calls Try.prog 21 #[v, v'] w (Ret (.bool true) w) := by
  obtain ⟨a, len, cap, rfl⟩ := h.shape
  obtain ⟨rfl, hm, HC⟩ := h.at
  obtain ⟨a', len', cap', rfl⟩ := h'.shape
  obtain ⟨rfl, _, HC'⟩ := h'.at
  unfold maxLen at hm
  have HE := Lib.hid hc
  clear h h' hc
  have HL := Lib.hid hl
  rw [← hl] at HC' ⊢
  clear hl
  go_enter Try.func21, Try.ntmps21
  go_wp2_with fail
  go_loopw [5] (fun i wr => ∃ k n : Nat, k ≤ zs.length ∧ i = .int .i64 k ∧ wr = w.drewN n) (fun i _ => zs.length - (intOf i).toNat)
  case atStart => exact ⟨0, 0, Nat.zero_le _, rfl, rfl⟩
  case round =>
    obtain ⟨k, n, hk, rfl, hw⟩ := hrel
    have HW := Lib.hid hw; clear hw
    by_cases hlt : k < zs.length
    · obtain ⟨b, off, rfl, hb, hc0⟩ := HC.out k hlt
      obtain ⟨b', off', rfl, hb', hc0'⟩ := HC'.out k hlt
      have HK := Lib.hid (HE.out k hlt)
      generalize zs.getD k 0 = z at *
      generalize ys.getD k 0 = y at *
      have hc1 : wr.cell? ⟨b, off + k, none⟩ = some (.float .f32 z) := by rw [HW.out]; exact hc0
      have hc1' : wr.cell? ⟨b', off' + k, none⟩ = some (.float .f32 y) := by rw [HW.out]; exact hc0'
      clear hc0 hc0'
      go_wp2_with fail
      refine Soft.region (fun _ _ v => v = .bool true) (by kernel_rfl) (by kernel_rfl) ?_
      repeat (refine Soft.step_k (fun K hK => ?_); go_simp; (try intro nn); refine hK _ ?_; clear hK K)
      refine Soft.step_k (fun K hK => ?_)
      go_simp
      refine ⟨fun n1 => (sameFloat_true _ _ (by rw [cls_widen, cls_widen, HK.out]) _).mono fun _ _ h => h.soft, hK _ ?_⟩
      clear hK K
      repeat (refine Soft.step_k (fun K hK => ?_); go_simp; (try intro nn); refine hK _ ?_; clear hK K)
      refine Soft.wpSoft_nil ?_
      intro n2
      go_wp2
      go_roundw
      case rel => exact ⟨k + 1, _, by omega, by go_num, by rw [HW.out, World.drewN_drewN]⟩
      case measure => simp [intOf]; omega
    · go_wp2
      go_ret
      exact .mk' _ rfl HW.out

/-- What is known on the way of a law: of what was there when it began nothing has turned, and some slices read as some numbers. -/
def Live (w0 w : World) (l : List (Value × List Nat)) : Prop := Below w0.heap.size w0 w ∧ ∀ v zs, (v, zs) ∈ l → FS w v zs
theorem Live.start {w : World} : Live w w [] := ⟨Below.refl _ _, fun _ _ h => by cases h⟩
theorem Live.add {w0 w : World} {l : List (Value × List Nat)} (h : Live w0 w l) {v : Value} {zs : List Nat} (hf : FS w v zs) : Live w0 w ((v, zs) :: l) := by
  refine ⟨h.1, fun v' zs' hm => ?_⟩
  cases hm with
  | head => exact hf
  | tail _ hm => exact h.2 _ _ hm
theorem Live.step {w0 w w' : World} {l : List (Value × List Nat)} (h : Live w0 w l) (hb : Below w.heap.size w w') : Live w0 w' l :=
  ⟨h.1.trans (hb.mono h.1.size), fun v zs hm => (h.2 v zs hm).later hb⟩
theorem Live.drawn {w0 w w' : World} {l : List (Value × List Nat)} (h : Live w0 w l) {n : Nat} (hw : w' = w.drewN n) : Live w0 w' l := by
  subst hw; exact h.step (below_dn (Below.refl _ _) n)

/-- The class of the sum of the first k numbers. -/
def sumC (zs : List Nat) : Nat → Option Nat
  | 0 => some 0
  | k + 1 => cop .add .f32 (sumC zs k) (cls .f32 (zs.getD k 0))
/-- The class of the sum of the first k products. -/
def dotC (zs ys : List Nat) : Nat → Option Nat
  | 0 => some 0
  | k + 1 => cop .add .f32 (dotC zs ys k) (cop .mul .f32 (cls .f32 (zs.getD k 0)) (cls .f32 (ys.getD k 0)))
/-- A number of a class is returned; the memory is as it was. -/
def RetC (k : FloatKind) (c : Option Nat) (w : World) (e : Ending) (w' : World) : Prop := ∃ r n, e = .returned (.float k r) ∧ r < 2 ^ k.format.width ∧ cls k r = c ∧ w' = w.drewN n
/-- Likewise, and true. -/
def RetC2 (k : FloatKind) (c : Option Nat) (w : World) (e : Ending) (w' : World) : Prop := ∃ r n, e = .returned (.tuple #[.float k r, .bool true]) ∧ r < 2 ^ k.format.width ∧ cls k r = c ∧ w' = w.drewN n
theorem RetC.mk' {k : FloatKind} {c : Option Nat} {w w' : World} {r n : Nat} (hr : r < 2 ^ k.format.width) (h : cls k r = c) (hw : w' = w.drewN n) : RetC k c w (.returned (.float k r)) w' := ⟨r, n, rfl, hr, h, hw⟩
theorem RetC2.mk' {k : FloatKind} {c : Option Nat} {w w' : World} {r n : Nat} (hr : r < 2 ^ k.format.width) (h : cls k r = c) (hw : w' = w.drewN n) : RetC2 k c w (.returned (.tuple #[.float k r, .bool true])) w' := ⟨r, n, rfl, hr, h, hw⟩
theorem cls_zero (k : FloatKind) : cls k 0 = some 0 := by cases k <;> decide
theorem zero_lt (k : FloatKind) : 0 < 2 ^ k.format.width := Nat.two_pow_pos _

theorem spec_l01Sum (w : World) (v : Value) (zs : List Nat) (h : FS w v zs) : Calls Try.prog 59 #[v] w (RetC .f32 (sumC zs zs.length) w) := by
  obtain ⟨a, len, cap, rfl⟩ := h.shape
  obtain ⟨rfl, hm, HC⟩ := h.at
  unfold maxLen at hm
  clear h
  go_enter Try.func59, Try.ntmps59
  go_wp2_with fail
  go_loopw [3, 4] (fun s i wr => ∃ k n r : Nat, k ≤ zs.length ∧ i = .int .i64 k ∧ s = .float .f32 r ∧ r < 2 ^ FloatKind.f32.format.width ∧ cls .f32 r = sumC zs k ∧ wr = w.drewN n) (fun _ i _ => zs.length - (intOf i).toNat)
  case atStart => exact ⟨0, 0, 0, Nat.zero_le _, rfl, rfl, zero_lt _, cls_zero _, rfl⟩
  case round =>
    obtain ⟨k, n, r, hk, rfl, rfl, hr, hcr, rfl⟩ := hrel
    have HR := Lib.hid hr; clear hr
    have HCR := Lib.hid hcr; clear hcr
    by_cases hlt : k < zs.length
    · obtain ⟨b, off, rfl, hb, hc0⟩ := HC.out k hlt
      have HS := Lib.hid (show sumC zs (k + 1) = cop .add .f32 (sumC zs k) (cls .f32 (zs.getD k 0)) from rfl)
      generalize zs.getD k 0 = z at *
      go_wp2
      go_roundw
      case rel => exact ⟨k + 1, _, _, by omega, by go_num, rfl, fa_lt _ _ _ _ _, by rw [cls_fa, HS.out, HCR.out], rfl⟩
      case measure => simp [intOf]; omega
    · have : k = zs.length := by omega
      subst this
      go_wp2
      go_ret
      exact .mk' HR.out HCR.out rfl

end Go.Proofs.Ytdkgdinbglkjcaa
