/- SameProfile: whether three lists of numbers are the same. -/
import Derived.Test.YtdkgdinbglkjcaaWk8
namespace Go.Proofs.Ytdkgdinbglkjcaa
open Fl Go.RowKit

/-- All numbers of a list are words of 32 bits. -/
def Ws (zs : List Nat) : Prop := ∀ i, W32 (zs.getD i 0)
/-- The same numbers? -/
def sameAll (zs ys : List Nat) : Bool := decide (zs.length = ys.length) && (List.range zs.length).all fun i => same (zs.getD i 0) (ys.getD i 0)
theorem sameAll_len {zs ys : List Nat} (h : ¬ zs.length = ys.length) : sameAll zs ys = false := by unfold sameAll; rw [decide_eq_false h]; rfl
theorem sameAll_no {zs ys : List Nat} {k : Nat} (hk : k < zs.length) (h : same (zs.getD k 0) (ys.getD k 0) = false) : sameAll zs ys = false := by
  unfold sameAll
  have : ((List.range zs.length).all fun i => same (zs.getD i 0) (ys.getD i 0)) = false := by
    rw [List.all_eq_false]
    exact ⟨k, List.mem_range.2 hk, by rw [h]; simp⟩
  rw [this, Bool.and_false]
theorem sameAll_yes {zs ys : List Nat} (hl : zs.length = ys.length) (h : ∀ i, i < zs.length → same (zs.getD i 0) (ys.getD i 0) = true) : sameAll zs ys = true := by
  unfold sameAll
  rw [decide_eq_true hl, Bool.true_and, List.all_eq_true]
  exact fun i hi => h i (List.mem_range.1 hi)

theorem spec_l01SameAll (w : World) (v v' : Value) (zs ys : List Nat) (h : FS w v zs) (h' : FS w v' ys) (wz : Ws zs) (wy : Ws ys) :
    Calls Try.prog 88 #[v, v'] w (Ret (.bool (sameAll zs ys)) w) := by
  obtain ⟨a, len, cap, rfl⟩ := h.shape
  obtain ⟨rfl, hm, HC⟩ := h.at
  obtain ⟨a', len', cap', rfl⟩ := h'.shape
  obtain ⟨rfl, hm', HC'⟩ := h'.at
  unfold maxLen at hm hm'
  clear h h'
  have WZ := Lib.hid wz; have WY := Lib.hid wy
  clear wz wy
  by_cases hl : zs.length = ys.length
  · have HL := Lib.hid hl
    have hl2 : ((zs.length : Int) != (ys.length : Int)) = false := by rw [hl]; simp
    clear hl
    go_enter Try.func88, Try.ntmps88
    go_wp2_with fail
    go_loopw [5] (fun i wr => ∃ k n : Nat, k ≤ zs.length ∧ i = .int .i64 k ∧ wr = w.drewN n ∧ Hid (∀ i, i < k → same (zs.getD i 0) (ys.getD i 0) = true)) (fun i _ => zs.length - (intOf i).toNat)
    case atStart => exact ⟨0, 0, Nat.zero_le _, rfl, rfl, Lib.hid fun i hi => absurd hi (Nat.not_lt_zero _)⟩
    case round =>
      obtain ⟨k, n, hk, rfl, hw, HS⟩ := hrel
      have HW := Lib.hid hw; clear hw
      by_cases hlt : k < zs.length
      · obtain ⟨b, off, rfl, hb, hc0⟩ := HC.out k hlt
        obtain ⟨b', off', rfl, hb', hc0'⟩ := HC'.out k (by have := HL.out; omega)
        have hlt' : k < ys.length := by have := HL.out; omega
        have HZ := Lib.hid (WZ.out k); have HY := Lib.hid (WY.out k)
        cases hs : same (zs.getD k 0) (ys.getD k 0)
        · have HR := Lib.hid (sameAll_no hlt hs)
          have HQ := Lib.hid hs; clear hs
          generalize zs.getD k 0 = z at *
          generalize ys.getD k 0 = y at *
          have hc1 : wr.cell? ⟨b, off + k, none⟩ = some (.float .f32 z) := by rw [HW.out]; exact hc0
          have hc1' : wr.cell? ⟨b', off' + k, none⟩ = some (.float .f32 y) := by rw [HW.out]; exact hc0'
          clear hc0 hc0'
          go_wp2_with fail
          refine Soft.region (fun _ _ v => v = .bool false) (by kernel_rfl) (by kernel_rfl) ?_
          repeat (with_reducible refine Soft.step_k (fun K hK => ?_); go_simp; (try intro nn); refine hK _ ?_; clear hK K)
          with_reducible refine Soft.step_k (fun K hK => ?_)
          go_simp
          refine ⟨fun n1 => (spec_l01Same _ _ HZ.out HY.out _).mono fun _ _ h => by rw [HQ.out] at h; exact h.soft, hK _ ?_⟩
          clear hK K
          repeat (with_reducible refine Soft.step_k (fun K hK => ?_); go_simp; (try intro nn); refine hK _ ?_; clear hK K)
          refine Soft.wpSoft_nil ?_
          intro n2
          go_wp2
          go_ret
          exact .mk' _ (bool_congr HR.out.symm) (by rw [HW.out, World.drewN_drewN])
        · have HQ := Lib.hid hs; clear hs
          have HS' : Hid (∀ i, i < k + 1 → same (zs.getD i 0) (ys.getD i 0) = true) := Lib.hid fun i hi => by
            rcases Nat.lt_or_ge i k with q | q
            · exact HS.out i q
            · have : i = k := by omega
              subst this; exact HQ.out
          generalize zs.getD k 0 = z at *
          generalize ys.getD k 0 = y at *
          have hc1 : wr.cell? ⟨b, off + k, none⟩ = some (.float .f32 z) := by rw [HW.out]; exact hc0
          have hc1' : wr.cell? ⟨b', off' + k, none⟩ = some (.float .f32 y) := by rw [HW.out]; exact hc0'
          clear hc0 hc0'
          go_wp2_with fail
          refine Soft.region (fun _ _ v => v = .bool true) (by kernel_rfl) (by kernel_rfl) ?_
          repeat (with_reducible refine Soft.step_k (fun K hK => ?_); go_simp; (try intro nn); refine hK _ ?_; clear hK K)
          with_reducible refine Soft.step_k (fun K hK => ?_)
          go_simp
          refine ⟨fun n1 => (spec_l01Same _ _ HZ.out HY.out _).mono fun _ _ h => by rw [HQ.out] at h; exact h.soft, hK _ ?_⟩
          clear hK K
          repeat (with_reducible refine Soft.step_k (fun K hK => ?_); go_simp; (try intro nn); refine hK _ ?_; clear hK K)
          refine Soft.wpSoft_nil ?_
          intro n2
          go_wp2
          go_roundw
          case rel => exact ⟨k + 1, _, by omega, by go_num, by rw [HW.out, World.drewN_drewN], HS'⟩
          case measure => simp [intOf]; omega
      · have : k = zs.length := by omega
        subst this
        have HR := Lib.hid (sameAll_yes HL.out HS.out)
        go_wp2
        go_ret
        exact .mk' _ (bool_congr HR.out.symm) HW.out
  · have HR := Lib.hid (sameAll_len hl)
    have hl2 : ((zs.length : Int) != (ys.length : Int)) = true := by simp; omega
    clear hl
    go_enter Try.func88, Try.ntmps88
    go_wp2
    go_ret
    exact .mk' 0 (bool_congr HR.out.symm) rfl

theorem equalFunc_same (w : World) (v v' : Value) (zs ys : List Nat) (h : FS w v zs) (h' : FS w v' ys) (wz : Ws zs) (wy : Ws ys) :
    Calls Try.prog 89 #[v, v', .func (.func 90) #[] #[]] w (Ret (.bool (sameAll zs ys)) w) := by
  obtain ⟨a, len, cap, rfl⟩ := h.shape
  obtain ⟨rfl, hm, HC⟩ := h.at
  obtain ⟨a', len', cap', rfl⟩ := h'.shape
  obtain ⟨rfl, hm', HC'⟩ := h'.at
  unfold maxLen at hm hm'
  clear h h'
  have WZ := Lib.hid wz; have WY := Lib.hid wy
  clear wz wy
  by_cases hl : zs.length = ys.length
  · have HL := Lib.hid hl
    have hl2 : ((zs.length : Int) != (ys.length : Int)) = false := by rw [hl]; simp
    clear hl
    go_enter Try.func89, Try.ntmps89
    go_wp2_with fail
    go_loopw [17] (fun i wr => ∃ k n : Nat, k ≤ zs.length ∧ i = .int .i64 k ∧ wr = w.drewN n ∧ Hid (∀ i, i < k → same (zs.getD i 0) (ys.getD i 0) = true)) (fun i _ => zs.length - (intOf i).toNat)
    case atStart => exact ⟨0, 0, Nat.zero_le _, rfl, rfl, Lib.hid fun i hi => absurd hi (Nat.not_lt_zero _)⟩
    case round =>
      obtain ⟨k, n, hk, rfl, rfl, HS⟩ := hrel
      by_cases hlt : k < zs.length
      · obtain ⟨b, off, rfl, hb, hc0⟩ := HC.out k hlt
        obtain ⟨b', off', rfl, hb', hc0'⟩ := HC'.out k (by have := HL.out; omega)
        have hlt' : k < ys.length := by have := HL.out; omega
        have HZ := Lib.hid (WZ.out k); have HY := Lib.hid (WY.out k)
        cases hs : same (zs.getD k 0) (ys.getD k 0)
        · have HR := Lib.hid (sameAll_no hlt hs)
          have HQ := Lib.hid hs; clear hs
          generalize zs.getD k 0 = z at *
          generalize ys.getD k 0 = y at *
          go_wp2_with (go_at_call 90; refine (impl_SameNumber _ _ HZ.out HY.out _).mono ?_; rintro e w' ⟨rfl, m, rfl⟩; rw [HQ.out])
          go_ret
          exact .mk' _ (bool_congr HR.out.symm) rfl
        · have HQ := Lib.hid hs; clear hs
          have HS' : Hid (∀ i, i < k + 1 → same (zs.getD i 0) (ys.getD i 0) = true) := Lib.hid fun i hi => by
            rcases Nat.lt_or_ge i k with q | q
            · exact HS.out i q
            · have : i = k := by omega
              subst this; exact HQ.out
          generalize zs.getD k 0 = z at *
          generalize ys.getD k 0 = y at *
          go_wp2_with (go_at_call 90; refine (impl_SameNumber _ _ HZ.out HY.out _).mono ?_; rintro e w' ⟨rfl, m, rfl⟩; rw [HQ.out])
          go_roundw
          case rel => exact ⟨k + 1, _, by omega, by go_num, rfl, HS'⟩
          case measure => simp [intOf]; omega
      · have : k = zs.length := by omega
        subst this
        have HR := Lib.hid (sameAll_yes HL.out HS.out)
        go_wp2
        go_ret
        exact .mk' _ (bool_congr HR.out.symm) rfl
  · have HR := Lib.hid (sameAll_len hl)
    have hl2 : ((zs.length : Int) != (ys.length : Int)) = true := by simp; omega
    clear hl
    go_enter Try.func89, Try.ntmps89
    go_wp2
    go_ret
    exact .mk' 0 (bool_congr HR.out.symm) rfl

theorem impl_sameNumbers (w : World) (v v' : Value) (zs ys : List Nat) (h : FS w v zs) (h' : FS w v' ys) (wz : Ws zs) (wy : Ws ys) :
    Calls Try.prog 63 #[v, v'] w (Ret (.bool (sameAll zs ys)) w) := by
  have H := Lib.hid h; have H' := Lib.hid h'
  obtain ⟨a, len, cap, rfl⟩ := h.shape
  obtain ⟨a', len', cap', rfl⟩ := h'.shape
  clear h h'
  have WZ := Lib.hid wz; have WY := Lib.hid wy
  clear wz wy
  go_enter Try.func63, Try.ntmps63
  go_wp2_with (go_at_call 89; refine (equalFunc_same _ _ _ zs ys H.out H'.out WZ.out WY.out).mono ?_; rintro e w' ⟨rfl, m, rfl⟩)
  go_ret
  exact .mk' _ rfl rfl

/-- Are three lists the same? -/
def sameP (A L D A' L' D' : List Nat) : Bool := sameAll A A' && (sameAll L L' && sameAll D D')
def WsP (A L D : List Nat) : Prop := Ws A ∧ Ws L ∧ Ws D

theorem impl_SameProfile (w : World) (v v' : Value) (A L D A' L' D' : List Nat) (h : PS w v A L D) (h' : PS w v' A' L' D') (hw : WsP A L D) (hw' : WsP A' L' D') :
    Calls Try.prog 27 #[v, v'] w (RetB (.bool (sameP A L D A' L' D')) w) := by
  obtain ⟨a1, a2, a3, l1, l2, l3, d1, d2, d3, rfl, fa, fl, fd⟩ := h.shape
  obtain ⟨a1', a2', a3', l1', l2', l3', d1', d2', d3', rfl, fa', fl', fd'⟩ := h'.shape
  have FA := Lib.hid fa; have FL := Lib.hid fl; have FD := Lib.hid fd
  have FA' := Lib.hid fa'; have FL' := Lib.hid fl'; have FD' := Lib.hid fd'
  have W1 := Lib.hid hw; have W2 := Lib.hid hw'
  clear fa fl fd h fa' fl' fd' h' hw hw'
  have HB : Hid (Below w.heap.size w ((w.alloc (Obj.cells #[Value.slice a1 a2 a3, Value.slice l1 l2 l3, Value.slice d1 d2 d3] 36)).alloc (Obj.cells #[Value.slice a1' a2' a3', Value.slice l1' l2' l3', Value.slice d1' d2' d3'] 36))) := Lib.hid (((Below.refl _ _).alloc (Nat.le_refl _) _).alloc (by simp) _)
  cases hA : sameAll A A'
  · have HR := Lib.hid (show sameP A L D A' L' D' = false by unfold sameP; rw [hA]; rfl)
    have HA := Lib.hid hA; clear hA
    go_enter Try.func27, Try.ntmps27
    go_wp2_with fail
    refine (impl_sameNumbers _ _ _ A A' (FA.out.later HB.out) (FA'.out.later HB.out) W1.out.1 W2.out.1).mono ?_
    rintro e w1 ⟨rfl, n1, rfl⟩
    rw [HA.out]
    go_wp2
    go_ret
    exact .mk' (bool_congr HR.out.symm) (below_dn HB.out _)
  · cases hL : sameAll L L'
    · have HR := Lib.hid (show sameP A L D A' L' D' = false by unfold sameP; rw [hA, hL]; rfl)
      have HA := Lib.hid hA; clear hA
      have HL := Lib.hid hL; clear hL
      go_enter Try.func27, Try.ntmps27
      go_wp2_with fail
      refine (impl_sameNumbers _ _ _ A A' (FA.out.later HB.out) (FA'.out.later HB.out) W1.out.1 W2.out.1).mono ?_
      rintro e w1 ⟨rfl, n1, rfl⟩
      rw [HA.out]
      go_wp2_with fail
      refine (impl_sameNumbers _ _ _ L L' ((FL.out.later HB.out).drewN _) ((FL'.out.later HB.out).drewN _) W1.out.2.1 W2.out.2.1).mono ?_
      rintro e w1 ⟨rfl, n2, rfl⟩
      rw [HL.out]
      go_wp2
      go_ret
      exact .mk' (bool_congr HR.out.symm) (below_dn HB.out _)
    · have HR := Lib.hid (show sameP A L D A' L' D' = sameAll D D' by unfold sameP; rw [hA, hL]; rfl)
      have HA := Lib.hid hA; clear hA
      have HL := Lib.hid hL; clear hL
      go_enter Try.func27, Try.ntmps27
      go_wp2_with fail
      refine (impl_sameNumbers _ _ _ A A' (FA.out.later HB.out) (FA'.out.later HB.out) W1.out.1 W2.out.1).mono ?_
      rintro e w1 ⟨rfl, n1, rfl⟩
      rw [HA.out]
      go_wp2_with fail
      refine (impl_sameNumbers _ _ _ L L' ((FL.out.later HB.out).drewN _) ((FL'.out.later HB.out).drewN _) W1.out.2.1 W2.out.2.1).mono ?_
      rintro e w1 ⟨rfl, n2, rfl⟩
      rw [HL.out]
      go_wp2_with fail
      refine (impl_sameNumbers _ _ _ D D' ((FD.out.later HB.out).drewN _) ((FD'.out.later HB.out).drewN _) W1.out.2.2 W2.out.2.2).mono ?_
      rintro e w1 ⟨rfl, n3, rfl⟩
      go_wp2
      go_ret
      exact .mk' (bool_congr HR.out.symm) (below_dn HB.out _)

theorem FS.det {w : World} {v : Value} {zs ys : List Nat} (h : FS w v zs) (h' : FS w v ys) : zs = ys := by
  obtain ⟨a, len, cap, rfl, hl, _, h⟩ := h
  obtain ⟨a', len', cap', e, hl', _, h'⟩ := h'
  cases e
  refine List.ext_getElem (hl.trans hl'.symm) fun i hi hi' => ?_
  rcases h with h | ⟨b, off, ha, _, hc⟩
  · omega
  · rcases h' with h' | ⟨b', off', ha', _, hc'⟩
    · omega
    · rw [ha] at ha'
      cases ha'
      have q := (hc i (by omega)).symm.trans (hc' i (by omega))
      rw [getD_lt hi, getD_lt hi'] at q
      simpa using q
/-- What a call that compares two slices answers. -/
def sameT (w : World) (args : Array Value) (v : Value) : Prop := ∀ zs ys, FS w (args.getD 0 undef) zs → FS w (args.getD 1 undef) ys → v = .bool (sameAll zs ys)
theorem sameT.get {w : World} {u u' v : Value} {zs ys : List Nat} (h : sameT w #[u, u'] v) (f : FS w u zs) (f' : FS w u' ys) : v = .bool (sameAll zs ys) := h _ _ f f'
theorem Ret.sameT {w : World} {n : Nat} {u u' : Value} {zs ys : List Nat} {e : Ending} {w' : World} (h : Ret (.bool (sameAll zs ys)) (w.drewN n) e w') (f : FS w u zs) (f' : FS w u' ys) :
    ∃ v, e = .returned v ∧ sameT w #[u, u'] v ∧ ∃ m, w' = w.drewN m := by
  obtain ⟨rfl, m, rfl⟩ := h
  exact ⟨_, rfl, fun zs' ys' g g' => by rw [FS.det g f, FS.det g' f'], n + m, World.drewN_drewN _ _ _⟩

set_option maxHeartbeats 2000000 in
theorem spec_l02Same (w : World) (p p' : Nat) (a l d a' l' d' : Value) (A L D A' L' D' : List Nat) (hp : Blk w p #[a, l, d] 36) (hp' : Blk w p' #[a', l', d'] 36)
    (fa : FS w a A) (fl : FS w l L) (fd : FS w d D) (fa' : FS w a' A') (fl' : FS w l' L') (fd' : FS w d' D') (hw : WsP A L D) (hw' : WsP A' L' D') :
    Calls Try.prog 62 #[.pointer (some ⟨p, 0, none⟩), .pointer (some ⟨p', 0, none⟩)] w (Ret (.bool (sameP A L D A' L' D')) w) := by
  obtain ⟨a1, a2, a3, rfl⟩ := fa.shape
  obtain ⟨l1, l2, l3, rfl⟩ := fl.shape
  obtain ⟨d1, d2, d3, rfl⟩ := fd.shape
  obtain ⟨a1', a2', a3', rfl⟩ := fa'.shape
  obtain ⟨l1', l2', l3', rfl⟩ := fl'.shape
  obtain ⟨d1', d2', d3', rfl⟩ := fd'.shape
  have FA := Lib.hid fa; have FL := Lib.hid fl; have FD := Lib.hid fd
  have FA' := Lib.hid fa'; have FL' := Lib.hid fl'; have FD' := Lib.hid fd'
  have W1 := Lib.hid hw; have W2 := Lib.hid hw'
  clear fa fl fd fa' fl' fd' hw hw'
  have k0 : w.cell? ⟨p, 0, none⟩ = some (.slice a1 a2 a3) := hp.cell 0
  have k1 : w.cell? ⟨p, 1, none⟩ = some (.slice l1 l2 l3) := hp.cell 1
  have k2 : w.cell? ⟨p, 2, none⟩ = some (.slice d1 d2 d3) := hp.cell 2
  have k0' : w.cell? ⟨p', 0, none⟩ = some (.slice a1' a2' a3') := hp'.cell 0
  have k1' : w.cell? ⟨p', 1, none⟩ = some (.slice l1' l2' l3') := hp'.cell 1
  have k2' : w.cell? ⟨p', 2, none⟩ = some (.slice d1' d2' d3') := hp'.cell 2
  clear hp hp'
  have C1 : ∀ n, Calls Try.prog 88 #[.slice a1 a2 a3, .slice a1' a2' a3'] (w.drewN n) (fun e w'' => ∃ v, e = .returned v ∧ sameT w #[.slice a1 a2 a3, .slice a1' a2' a3'] v ∧ ∃ m, w'' = w.drewN m) :=
    fun n => (spec_l01SameAll (w.drewN n) _ _ A A' (FA.out.drewN n) (FA'.out.drewN n) W1.out.1 W2.out.1).mono fun _ _ h => h.sameT FA.out FA'.out
  have C2 : ∀ n, Calls Try.prog 88 #[.slice l1 l2 l3, .slice l1' l2' l3'] (w.drewN n) (fun e w'' => ∃ v, e = .returned v ∧ sameT w #[.slice l1 l2 l3, .slice l1' l2' l3'] v ∧ ∃ m, w'' = w.drewN m) :=
    fun n => (spec_l01SameAll (w.drewN n) _ _ L L' (FL.out.drewN n) (FL'.out.drewN n) W1.out.2.1 W2.out.2.1).mono fun _ _ h => h.sameT FL.out FL'.out
  have C3 : ∀ n, Calls Try.prog 88 #[.slice d1 d2 d3, .slice d1' d2' d3'] (w.drewN n) (fun e w'' => ∃ v, e = .returned v ∧ sameT w #[.slice d1 d2 d3, .slice d1' d2' d3'] v ∧ ∃ m, w'' = w.drewN m) :=
    fun n => (spec_l01SameAll (w.drewN n) _ _ D D' (FD.out.drewN n) (FD'.out.drewN n) W1.out.2.2 W2.out.2.2).mono fun _ _ h => h.sameT FD.out FD'.out
  have D1 := Lib.hid C1; have D2 := Lib.hid C2; have D3 := Lib.hid C3
  clear C1 C2 C3
  cases hA : sameAll A A'
  · have HR := Lib.hid (show sameP A L D A' L' D' = false by unfold sameP; rw [hA]; rfl)
    have HA := Lib.hid hA; clear hA
    go_enter Try.func62, Try.ntmps62
    go_wp2_with fail
    refine Soft.region (fun _ args v => sameT w args v) (by kernel_rfl) (by kernel_rfl) ?_
    repeat (with_reducible refine Soft.step_k (fun K hK => ?_); go_simp; (try intro nn); refine hK _ ?_; clear hK K)
    with_reducible refine Soft.step_k (fun K hK => ?_)
    go_simp
    refine ⟨fun n1 => D1.out _, fun v hv => ?_⟩
    rw [hv.get FA.out FA'.out, HA.out]
    refine hK _ ?_
    clear hK K
    repeat (with_reducible refine Soft.step_k (fun K hK => ?_); go_simp; (try intro nn); refine hK _ ?_; clear hK K)
    refine Soft.wpSoft_nil ?_
    intro n2
    go_wp2
    go_ret
    exact .mk' _ (bool_congr HR.out.symm) rfl
  · cases hL : sameAll L L'
    · have HR := Lib.hid (show sameP A L D A' L' D' = false by unfold sameP; rw [hA, hL]; rfl)
      have HA := Lib.hid hA; clear hA
      have HL := Lib.hid hL; clear hL
      go_enter Try.func62, Try.ntmps62
      go_wp2_with fail
      refine Soft.region (fun _ args v => sameT w args v) (by kernel_rfl) (by kernel_rfl) ?_
      repeat (with_reducible refine Soft.step_k (fun K hK => ?_); go_simp; (try intro nn); refine hK _ ?_; clear hK K)
      with_reducible refine Soft.step_k (fun K hK => ?_)
      go_simp
      refine ⟨fun n1 => D1.out _, fun v hv => ?_⟩
      rw [hv.get FA.out FA'.out, HA.out]
      refine hK _ ?_
      clear hK K
      repeat (with_reducible refine Soft.step_k (fun K hK => ?_); go_simp; (try intro nn); refine hK _ ?_; clear hK K)
      with_reducible refine Soft.step_k (fun K hK => ?_)
      go_simp
      refine ⟨fun n1 => D2.out _, fun v hv => ?_⟩
      rw [hv.get FL.out FL'.out, HL.out]
      refine hK _ ?_
      clear hK K
      repeat (with_reducible refine Soft.step_k (fun K hK => ?_); go_simp; (try intro nn); refine hK _ ?_; clear hK K)
      refine Soft.wpSoft_nil ?_
      intro n2
      go_wp2
      go_ret
      exact .mk' _ (bool_congr HR.out.symm) rfl
    · cases hD : sameAll D D'
      · have HR := Lib.hid (show sameP A L D A' L' D' = false by unfold sameP; rw [hA, hL, hD]; rfl)
        have HA := Lib.hid hA; clear hA
        have HL := Lib.hid hL; clear hL
        have HD := Lib.hid hD; clear hD
        go_enter Try.func62, Try.ntmps62
        go_wp2_with fail
        refine Soft.region (fun _ args v => sameT w args v) (by kernel_rfl) (by kernel_rfl) ?_
        repeat (with_reducible refine Soft.step_k (fun K hK => ?_); go_simp; (try intro nn); refine hK _ ?_; clear hK K)
        with_reducible refine Soft.step_k (fun K hK => ?_)
        go_simp
        refine ⟨fun n1 => D1.out _, fun v hv => ?_⟩
        rw [hv.get FA.out FA'.out, HA.out]
        refine hK _ ?_
        clear hK K
        repeat (with_reducible refine Soft.step_k (fun K hK => ?_); go_simp; (try intro nn); refine hK _ ?_; clear hK K)
        with_reducible refine Soft.step_k (fun K hK => ?_)
        go_simp
        refine ⟨fun n1 => D2.out _, fun v hv => ?_⟩
        rw [hv.get FL.out FL'.out, HL.out]
        refine hK _ ?_
        clear hK K
        repeat (with_reducible refine Soft.step_k (fun K hK => ?_); go_simp; (try intro nn); refine hK _ ?_; clear hK K)
        with_reducible refine Soft.step_k (fun K hK => ?_)
        go_simp
        refine ⟨fun n1 => D3.out _, fun v hv => ?_⟩
        rw [hv.get FD.out FD'.out, HD.out]
        refine hK _ ?_
        clear hK K
        repeat (with_reducible refine Soft.step_k (fun K hK => ?_); go_simp; (try intro nn); refine hK _ ?_; clear hK K)
        refine Soft.wpSoft_nil ?_
        intro n2
        go_wp2
        go_ret
        exact .mk' _ (bool_congr HR.out.symm) rfl
      · have HR := Lib.hid (show sameP A L D A' L' D' = true by unfold sameP; rw [hA, hL, hD]; rfl)
        have HA := Lib.hid hA; clear hA
        have HL := Lib.hid hL; clear hL
        have HD := Lib.hid hD; clear hD
        go_enter Try.func62, Try.ntmps62
        go_wp2_with fail
        refine Soft.region (fun _ args v => sameT w args v) (by kernel_rfl) (by kernel_rfl) ?_
        repeat (with_reducible refine Soft.step_k (fun K hK => ?_); go_simp; (try intro nn); refine hK _ ?_; clear hK K)
        with_reducible refine Soft.step_k (fun K hK => ?_)
        go_simp
        refine ⟨fun n1 => D1.out _, fun v hv => ?_⟩
        rw [hv.get FA.out FA'.out, HA.out]
        refine hK _ ?_
        clear hK K
        repeat (with_reducible refine Soft.step_k (fun K hK => ?_); go_simp; (try intro nn); refine hK _ ?_; clear hK K)
        with_reducible refine Soft.step_k (fun K hK => ?_)
        go_simp
        refine ⟨fun n1 => D2.out _, fun v hv => ?_⟩
        rw [hv.get FL.out FL'.out, HL.out]
        refine hK _ ?_
        clear hK K
        repeat (with_reducible refine Soft.step_k (fun K hK => ?_); go_simp; (try intro nn); refine hK _ ?_; clear hK K)
        with_reducible refine Soft.step_k (fun K hK => ?_)
        go_simp
        refine ⟨fun n1 => D3.out _, fun v hv => ?_⟩
        rw [hv.get FD.out FD'.out, HD.out]
        refine hK _ ?_
        clear hK K
        repeat (with_reducible refine Soft.step_k (fun K hK => ?_); go_simp; (try intro nn); refine hK _ ?_; clear hK K)
        refine Soft.wpSoft_nil ?_
        intro n2
        go_wp2
        go_ret
        exact .mk' _ (bool_congr HR.out.symm) rfl

theorem spec_SameProfile (w : World) (v v' : Value) (A L D A' L' D' : List Nat) (h : PS w v A L D) (h' : PS w v' A' L' D') (hw : WsP A L D) (hw' : WsP A' L' D') :
    Calls Try.prog 25 #[v, v'] w (RetB (.bool (sameP A L D A' L' D')) w) := by
  obtain ⟨a1, a2, a3, l1, l2, l3, d1, d2, d3, rfl, fa, fl, fd⟩ := h.shape
  obtain ⟨a1', a2', a3', l1', l2', l3', d1', d2', d3', rfl, fa', fl', fd'⟩ := h'.shape
  have FA := Lib.hid fa; have FL := Lib.hid fl; have FD := Lib.hid fd
  have FA' := Lib.hid fa'; have FL' := Lib.hid fl'; have FD' := Lib.hid fd'
  have W1 := Lib.hid hw; have W2 := Lib.hid hw'
  clear fa fl fd h fa' fl' fd' h' hw hw'
  go_enter Try.func25, Try.ntmps25
  go_wp2_with fail
  have HB : Hid (Below w.heap.size w ((w.alloc (Obj.cells #[Value.slice a1 a2 a3, Value.slice l1 l2 l3, Value.slice d1 d2 d3] 36)).alloc (Obj.cells #[Value.slice a1' a2' a3', Value.slice l1' l2' l3', Value.slice d1' d2' d3'] 36))) := Lib.hid (((Below.refl _ _).alloc (Nat.le_refl _) _).alloc (by simp) _)
  have KP := Lib.hid ((Blk.new w #[Value.slice a1 a2 a3, Value.slice l1 l2 l3, Value.slice d1 d2 d3] 36).alloc (Obj.cells #[Value.slice a1' a2' a3', Value.slice l1' l2' l3', Value.slice d1' d2' d3'] 36))
  have KQ := Lib.hid (Blk.new (w.alloc (Obj.cells #[Value.slice a1 a2 a3, Value.slice l1 l2 l3, Value.slice d1 d2 d3] 36)) #[Value.slice a1' a2' a3', Value.slice l1' l2' l3', Value.slice d1' d2' d3'] 36)
  rw [show (w.alloc (Obj.cells #[Value.slice a1 a2 a3, Value.slice l1 l2 l3, Value.slice d1 d2 d3] 36)).heap.size = w.heap.size + 1 by simp] at KQ
  refine (spec_l02Same _ _ _ _ _ _ _ _ _ A L D A' L' D' KP.out KQ.out (FA.out.later HB.out) (FL.out.later HB.out) (FD.out.later HB.out) (FA'.out.later HB.out) (FL'.out.later HB.out) (FD'.out.later HB.out) W1.out W2.out).mono ?_
  rintro e w1 ⟨rfl, n1, rfl⟩
  go_wp2
  go_ret
  exact .mk' rfl (below_dn HB.out _)

end Go.Proofs.Ytdkgdinbglkjcaa
