/- slices.Clone, and copies of structs of three lists. -/
import Derived.Test.YtdkgdinbglkjcaaWk20
import Derived.Deep.RegionHeld3
import Derived.Lib.SliceRun
import Derived.Lib.Walk
namespace Go.Proofs.Ytdkgdinbglkjcaa
open Fl Go.RowKit

theorem FS.news {w : World} {a : Option Addr} {len cap : Nat} {zs : List Nat} (h : FS w (.slice a len cap) zs) (hn : 0 < zs.length) :
    ∃ b off, a = some ⟨b, off, none⟩ ∧ b < w.heap.size ∧ ∀ j u, (zs.map (Value.float .f32))[j]? = some u → w.cell? ⟨b, off + j, none⟩ = some u := by
  obtain ⟨rfl, _, H⟩ := h.at
  obtain ⟨b, off, e, hb, _⟩ := H.out 0 hn
  refine ⟨b, off, e, hb, fun j u hj => ?_⟩
  rw [List.getElem?_map] at hj
  cases hz : zs[j]? with
  | none => rw [hz] at hj; cases hj
  | some z =>
    rw [hz] at hj
    have hjl : j < zs.length := by
      rcases Nat.lt_or_ge j zs.length with q | q
      · exact q
      · rw [List.getElem?_eq_none q] at hz; cases hz
    obtain ⟨b', off', e', _, hc⟩ := H.out j hjl
    rw [e] at e'
    cases e'
    rw [hc, getD_lt hjl]
    rw [List.getElem?_eq_getElem hjl] at hz
    cases hz
    simpa using hj
theorem map_cells (zs : List Nat) : ∀ u ∈ zs.map (Value.float .f32), u.oneCell' = true := fun u hu => by
  rw [List.mem_map] at hu
  obtain ⟨z, _, rfl⟩ := hu
  rfl

theorem cell_set3 {w : World} {b b' : Nat} (hne : b ≠ b') (a l d : Value) (i : Nat) : (set3 w b' a l d).cell? ⟨b, i, none⟩ = w.cell? ⟨b, i, none⟩ := by
  rw [set3, World.cell?_setCell_other, World.cell?_setCell_other, World.cell?_setCell_other] <;> (intro hc; exact hne (by cases hc; rfl))

theorem clone_own (w : World) (v : Value) (zs : List Nat) (h : FS w v zs) (hn : 0 < zs.length) (hs : zs.length ≤ 1000) :
    Calls Try.prog 97 #[v] w (fun e w' => ∃ v', e = .returned v' ∧ w'.ownsRow w.heap.size 23 1 v' zs.length (zs.map (Value.float .f32)) ∧ Below w.heap.size w w') := by
  obtain ⟨a, len, cap, rfl⟩ := h.shape
  obtain ⟨b, off, rfl, hb, hc⟩ := h.news hn
  obtain ⟨rfl, _⟩ := h.at
  obtain ⟨i0, hi, hz0, hz1, hz2⟩ := info_parts infoF
  have HC := Lib.hid hc; have HN := Lib.hid hn
  have HM := Lib.hid (map_cells zs)
  have q22 : ∀ (w : World) (a : Option Addr) (n c n' c' : Nat), (binOp .eql 22 (.slice a n c) (.slice none n' c')).run Try.prog w = .ok (.bool a.isNone) w := fun w a n c n' c' => Lib.run_eql_slice_nil w _ _ a n c n' c' Try.underlying22
  clear h hc
  go_enter Try.func97, Try.ntmps97
  go_wp2_with (at_builtin; refine wpList_append_own_at _ rfl _ _ 22 rfl w.heap.size 23 i0 (.float .f32 0) 1 4 Try.underlying22 hi hz0 hz1 hz2 rfl (by decide) _ _ _ rfl (made0 w w.heap.size (Nat.le_refl _)) ⟨b, off, none⟩ zs.length cap (zs.map (Value.float .f32)) rfl ?qc1 ?qc2 ?qc3 ?qc4 ?qc5 ?qc6 ?_)
  case qc1 => simp
  case qc2 =>
    intro j u hj
    rw [Addr.add_lit]
    exact Lib.cell?_alloc_some _ (HC.out j u hj)
  case qc3 => exact HM.out
  case qc4 => unfold maxLen; omega
  case qc5 => omega
  case qc6 => simp
  intro v' w' ho hg _ _
  have HO := Lib.hid ho
  have HB : Hid (Below w.heap.size w w') := Lib.hid (Below.grown ((Below.refl _ _).alloc (Nat.le_refl _) _) hg (by simp) (fun k hk => by simp [Value.ownBlock] at hk; omega))
  clear ho hg
  go_wp2
  go_ret
  exact ⟨_, rfl, by simpa using HO.out, HB.out⟩

theorem impl_copyProfile (w : World) (a l d : Value) (A L D : List Nat) (h : PS w (.agg #[a, l, d]) A L D) (hA : 0 < A.length ∧ A.length ≤ 1000) (hL : 0 < L.length ∧ L.length ≤ 1000) (hD : 0 < D.length ∧ D.length ≤ 1000) :
    Calls Try.prog 84 #[.agg #[a, l, d]] w (fun e w' => ∃ a' l' d', e = .returned (.agg #[a', l', d']) ∧ Own3 w' w.heap.size a' l' d' A L D ∧ Below w.heap.size w w') := by
  obtain ⟨a1, a2, a3, l1, l2, l3, d1, d2, d3, he, fa, fl, fd⟩ := h.shape
  cases he
  obtain ⟨k1, k2, hb, hz⟩ := box2 w #[Value.slice a1 a2 a3, Value.slice l1 l2 l3, Value.slice d1 d2 d3] #[Value.slice none 0 0, Value.slice none 0 0, Value.slice none 0 0] 36 36
  obtain ⟨wb, hwb⟩ : ∃ wb, wb = ((w.alloc (Obj.cells #[Value.slice a1 a2 a3, Value.slice l1 l2 l3, Value.slice d1 d2 d3] 36)).alloc (Obj.cells #[Value.slice none 0 0, Value.slice none 0 0, Value.slice none 0 0] 36)) := ⟨_, rfl⟩
  rw [← hwb] at k1 k2 hb hz
  have hd : Below wb.heap.size wb wb.drew := below_dn (Below.refl _ _) 1
  have FA := Lib.hid ((fa.later hb).later hd); have FL := Lib.hid ((fl.later hb).later hd); have FD := Lib.hid ((fd.later hb).later hd)
  have K1 := Lib.hid (k1.later hd); have K2 := Lib.hid (k2.later hd); have HZ := Lib.hid hz
  have HB := Lib.hid (hb.trans (hd.mono (by omega)))
  have HA := Lib.hid hA; have HL := Lib.hid hL; have HD := Lib.hid hD
  clear fa fl fd h k1 k2 hb hz hd hA hL hD
  go_enter Try.func84, Try.ntmps84
  go_wp2_with fail
  rw [← hwb]
  clear hwb
  obtain ⟨⟨c0, c1, c2⟩, _⟩ := cells3 K1.out
  obtain ⟨⟨r0, r1, r2⟩, f0, f1, f2⟩ := cells3 K2.out
  have T0 : True := trivial
  have T1 : True := trivial
  have T2 : True := trivial
  go_region_held3 (fun w' => w'.cell? ⟨w.heap.size, 0, none⟩ = some (Value.slice a1 a2 a3) ∧ w'.cell? ⟨w.heap.size, 1, none⟩ = some (Value.slice l1 l2 l3) ∧ w'.cell? ⟨w.heap.size, 2, none⟩ = some (Value.slice d1 d2 d3)) (first | exact ⟨c0, c1, c2⟩ | exact ⟨(cell_set3 (by omega) _ _ _ _).trans c0, (cell_set3 (by omega) _ _ _ _).trans c1, (cell_set3 (by omega) _ _ _ _).trans c2⟩) (first
    | (clear T0; go_at_call 97; refine (clone_own _ _ A FA.out HA.out.1 HA.out.2).mono ?_; rintro e wa ⟨va, rfl, ho, hb⟩; clear c0 c1 c2 r0 r1 r2 f0 f1 f2; obtain ⟨x1, y1, z1, rfl⟩ := own_shape ho; have OA := Lib.hid (own_base ho HB.out.size); have LA : Hid (∀ g, (Value.slice x1 y1 z1).ownBlock = some g → g < wa.heap.size) := Lib.hid (fun g hg => (World.ownsRow.lt ho g hg).2); replace FL := Lib.hid (FL.out.later hb); replace FD := Lib.hid (FD.out.later hb); replace K1 := Lib.hid (K1.out.later hb); replace K2 := Lib.hid (K2.out.later hb); replace HB := Lib.hid (HB.out.trans (hb.mono HB.out.size)); clear ho hb; obtain ⟨⟨c0, c1, c2⟩, _⟩ := cells3 K1.out; obtain ⟨⟨r0, r1, r2⟩, f0, f1, f2⟩ := cells3 K2.out)
    | (clear T1; go_at_call 97; refine (clone_own _ _ L FL.out HL.out.1 HL.out.2).mono ?_; rintro e wl ⟨vl, rfl, ho, hb⟩; clear c0 c1 c2 r0 r1 r2 f0 f1 f2; obtain ⟨x2, y2, z2, rfl⟩ := own_shape ho; have OL := Lib.hid (own_base ho HB.out.size); have LL : Hid (∀ g, (Value.slice x2 y2 z2).ownBlock = some g → wa.heap.size ≤ g ∧ g < wl.heap.size) := Lib.hid (fun g hg => World.ownsRow.lt ho g hg); have SZ : Hid (wa.heap.size ≤ wl.heap.size) := Lib.hid hb.size; replace OA := Lib.hid (own_later OA.out hb); replace FD := Lib.hid (FD.out.later hb); replace K1 := Lib.hid (K1.out.later hb); replace K2 := Lib.hid (K2.out.later hb); replace HB := Lib.hid (HB.out.trans (hb.mono HB.out.size)); clear ho hb; obtain ⟨⟨c0, c1, c2⟩, _⟩ := cells3 K1.out; obtain ⟨⟨r0, r1, r2⟩, f0, f1, f2⟩ := cells3 K2.out)
    | (clear T2; go_at_call 97; refine (clone_own _ _ D FD.out HD.out.1 HD.out.2).mono ?_; rintro e wd ⟨vd, rfl, ho, hb⟩; clear c0 c1 c2 r0 r1 r2 f0 f1 f2; obtain ⟨x3, y3, z3, rfl⟩ := own_shape ho; have OD := Lib.hid (own_base ho HB.out.size); have LD : Hid (∀ g, (Value.slice x3 y3 z3).ownBlock = some g → wl.heap.size ≤ g) := Lib.hid (fun g hg => (World.ownsRow.lt ho g hg).1); replace OA := Lib.hid (own_later OA.out hb); replace OL := Lib.hid (own_later OL.out hb); replace K1 := Lib.hid (K1.out.later hb); replace K2 := Lib.hid (K2.out.later hb); replace HB := Lib.hid (HB.out.trans (hb.mono HB.out.size)); clear ho hb; obtain ⟨⟨c0, c1, c2⟩, _⟩ := cells3 K1.out; obtain ⟨⟨r0, r1, r2⟩, f0, f1, f2⟩ := cells3 K2.out))
  have HO : Hid (Own3 wd w.heap.size (Value.slice x1 y1 z1) (Value.slice x2 y2 z2) (Value.slice x3 y3 z3) A L D) := Lib.hid ⟨OA.out, OL.out, OD.out, ne_of LA.out (fun g hg => (LL.out g hg).1) (Nat.le_refl _), ne_of LA.out LD.out SZ.out, ne_of (fun g hg => (LL.out g hg).2) LD.out (Nat.le_refl _)⟩
  have KF := Lib.hid (set3_blk K2.out (Value.slice x1 y1 z1) (Value.slice x2 y2 z2) (Value.slice x3 y3 z3))
  have HF := Lib.hid (set3_own HO.out K2.out (Value.slice x1 y1 z1) (Value.slice x2 y2 z2) (Value.slice x3 y3 z3))
  have HBF := Lib.hid (set3_below (b := w.heap.size + 1) HB.out (by omega) (Value.slice x1 y1 z1) (Value.slice x2 y2 z2) (Value.slice x3 y3 z3))
  clear OA OL OD LA LL LD SZ K1 K2 HB HO
  go_wp2
  obtain ⟨⟨q0, q1, q2⟩, _⟩ := cells3 KF.out
  unfold set3 at q0 q1 q2
  refine bodyPost_ret (v := .agg #[Value.slice x1 y1 z1, Value.slice x2 y2 z2, Value.slice x3 y3 z3]) (by simp [results, Try.results84, go_sem, q0, q1, q2]) rfl ⟨_, _, _, rfl, HF.out, HBF.out⟩

end Go.Proofs.Ytdkgdinbglkjcaa
