/- Products of small whole complex numbers are exact, and quotients lead back. -/
import Derived.Test.YtcaceplnlfmejaaGreatDoorCx
import Derived.Test.YtcaceplnlfmejaaGreatDoorNy5
import Derived.Test.YtcaceplnlfmejaaGreatDoorNz4
import Derived.Test.YtcaceplnlfmejaaGreatDoorCf
import Derived.Test.YtcaceplnlfmejaaGreatDoorRc
import Derived.Laws.ComplexArith
/- Integers in floating point: sums, products and quotients that are exact. -/
namespace Go.Proofs.YtcaceplnlfmejaaGreatDoor
open Fl Go.RowKit Ieee

/-- The double, the float32, that is the integer n (of either nought). -/
def E1 (x : Nat) (n : Int) : Prop := x < 2 ^ 64 ∧ fin double x ∧ N double x = n * U double
def E3 (x : Nat) (n : Int) : Prop := W32 x ∧ fin single x ∧ N single x = n * U single
/-- Small enough to be exact. -/
def sm (n : Int) : Prop := -2251799813685248 ≤ n ∧ n ≤ 2251799813685248
theorem e1_qw {n : Int} (h : sm n) : fin double (qw (4 * n)) ∧ N double (qw (4 * n)) = n * U double := by
  obtain ⟨a, b⟩ := qw_spec (l := 4 * n) (by unfold sm at h; omega) (by unfold sm at h; omega)
  refine ⟨a, ?_⟩
  rw [b, U_V, Int.mul_comm 4 n, Int.mul_assoc]
theorem e1_mul {x y : Nat} {a b : Int} (hx : E1 x a) (hy : E1 y b) (h : sm (a * b)) : ∃ z, cop .mul .f64 (some x) (some y) = some z ∧ E1 z (a * b) := by
  obtain ⟨cf, cn⟩ := e1_qw h
  have e : a * b * U double * U double = (a * U double) * (b * U double) := by simp only [Int.mul_assoc, Int.mul_left_comm]
  obtain ⟨z, hz, hl, hf, z1, z2⟩ := mul_bd (f := double) (by decide) (by decide) hx.2.1 hy.2.1 cf cf (by rw [cn, hx.2.2, hy.2.2, e]; exact Int.le_refl _) (by rw [cn, hx.2.2, hy.2.2, e]; exact Int.le_refl _)
  exact ⟨z, hz, hl, hf, by omega⟩
theorem e1_add {x y : Nat} {a b : Int} (hx : E1 x a) (hy : E1 y b) (h : sm (a + b)) : ∃ z, cop .add .f64 (some x) (some y) = some z ∧ E1 z (a + b) := by
  obtain ⟨cf, cn⟩ := e1_qw h
  obtain ⟨z, hz, hl, hf, z1, z2⟩ := add_bd (f := double) (by decide) hx.2.1 hy.2.1 cf cf (by rw [cn, hx.2.2, hy.2.2, Int.add_mul]; exact Int.le_refl _) (by rw [cn, hx.2.2, hy.2.2, Int.add_mul]; exact Int.le_refl _)
  exact ⟨z, hz, hl, hf, by omega⟩
theorem e1_sub {x y : Nat} {a b : Int} (hx : E1 x a) (hy : E1 y b) (h : sm (a - b)) : ∃ z, cop .sub .f64 (some x) (some y) = some z ∧ E1 z (a - b) := by
  obtain ⟨cf, cn⟩ := e1_qw h
  obtain ⟨z, hz, hl, hf, z1, z2⟩ := sub_bd (f := double) (by decide) hx.2.1 hy.2.1 cf cf (by rw [cn, hx.2.2, hy.2.2, Int.sub_mul]; exact Int.le_refl _) (by rw [cn, hx.2.2, hy.2.2, Int.sub_mul]; exact Int.le_refl _)
  exact ⟨z, hz, hl, hf, by omega⟩
theorem e1_quo {x y : Nat} {q d : Int} (hx : E1 x (q * d)) (hy : E1 y d) (hd : 0 < d) (h : sm q) : ∃ z, cop .quo .f64 (some x) (some y) = some z ∧ E1 z q := by
  obtain ⟨cf, cn⟩ := e1_qw h
  have u := U_pos double
  have hy0 : 0 < N double y := by rw [hy.2.2]; exact Int.mul_pos hd u
  have e : q * U double * (d * U double) = q * d * U double * U double := by simp only [Int.mul_assoc, Int.mul_left_comm]
  obtain ⟨z, hz, hl, hf, z1, z2, _⟩ := div_bd (f := double) (by decide) (by decide) hx.2.1 hy.2.1 cf cf hy0 (by rw [cn, hx.2.2, hy.2.2, e]; exact Int.le_refl _) (by rw [cn, hx.2.2, hy.2.2, e]; exact Int.le_refl _)
  exact ⟨z, hz, hl, hf, by omega⟩

/-- Two words of one number that is not nought are one word. -/
theorem word_uniq {f : Format} {x y : Nat} (hx : x < 2 ^ f.width) (hy : y < 2 ^ f.width) (h : N f x = N f y) (h0 : N f x ≠ 0) : x = y := by
  have hr : num f (rung f x) = num f (rung f y) ∧ ng f x = ng f y := by
    unfold N at h h0
    cases a : ng f x <;> cases b : ng f y <;> rw [a, b] at h <;> simp at h ⊢ <;> rw [a] at h0 <;> simp at h0 <;> omega
  have e : rung f x = rung f y := by
    have a := rg0_num f (rung f x)
    rw [hr.1, rg0_num] at a
    exact a.symm
  rw [← word_of hx, ← word_of hy, e, hr.2]
theorem U_gap : U single * 2 ^ gapP = U double := by
  unfold U
  rw [show (-single.leastPlace).toNat = 149 by decide, show (-double.leastPlace).toNat = 149 + gapP by decide, Int.pow_add]
theorem e3_wide {x : Nat} {n : Int} (h : E3 x n) : ∃ z, wC x = some z ∧ E1 z n ∧ z = tr .f32 .f64 x := by
  refine ⟨_, by unfold wC; rw [cls_fin (k := .f32) h.2.1]; rfl, ?_, rfl⟩
  obtain ⟨a, b, _⟩ := widen h.2.1
  refine ⟨tr_lt (finb_iff.2 h.2.1), a, ?_⟩
  have b' : N double (tr .f32 .f64 x) = N single x * 2 ^ gapP := b
  rw [b', h.2.2, Int.mul_assoc, U_gap]
theorem word_lt32 (s : Bool) {r : Nat} (h : r < single.signWeight) : W32 (single.word s r) := by
  have e : single.signWeight = 2147483648 := rfl
  rw [e] at h
  unfold W32 Format.word
  rw [e]
  cases s <;> simp <;> omega
/-- The integers below 2^24. -/
def sm3 (n : Int) : Prop := -16777215 ≤ n ∧ n ≤ 16777215
theorem e3_int {n : Int} (h : sm3 n) : E3 (floatOfInt .f32 n) n := by
  have e : floatOfInt .f32 n = single.word (decide (n < 0)) (rg single n.natAbs 0) := nearest_int .f32 n
  rw [e]
  generalize hq : n.natAbs = q
  have hq2 : q < 2 ^ 24 := by unfold sm3 at h; omega
  have hlt := rg_lt single q 0
  have hb : rg0 single q 0 ≤ rg0 single (2 ^ 24) 0 := rg0_mono _ _ (by omega)
  have hfin : rg0 single q 0 < single.infRung := Nat.lt_of_le_of_lt hb (by decide +kernel)
  have hrg : rg single q 0 = rg0 single q 0 := by unfold rg; omega
  have hlt0 : rg0 single q 0 < single.signWeight := Nat.lt_trans hfin single.infRung_lt
  have hn : num single (rg0 single q 0) = q * 2 ^ (-single.leastPlace).toNat := by
    have := rg0_rep (f := single) (p := 0) (m := q) hq2 (by decide)
    rw [this, show (0 - single.leastPlace) = -single.leastPlace by omega]
  rw [hrg]
  refine ⟨word_lt32 _ hlt0, ?_, ?_⟩
  · unfold fin; rw [rung_word _ _ hlt0]; exact hfin
  · rw [N_word _ _ hlt0, hn, U_nat]
    by_cases s : n < 0
    · rw [decide_eq_true s, if_pos rfl, Int.natCast_mul, ← Int.neg_mul]
      congr 1
      omega
    · rw [decide_eq_false s, if_neg (by simp), Int.natCast_mul]
      congr 1
      omega
theorem e1_zero {z : Nat} (h : E1 z 0) : z = 0 ∨ z = 9223372036854775808 := by
  obtain ⟨hl, hf, hn⟩ := h
  rw [Int.zero_mul] at hn
  have hr : rung double z = 0 := by
    have e : num double (rung double z) = 0 := by unfold N at hn; split at hn <;> omega
    have a := rg0_num double (rung double z)
    rw [e] at a
    unfold rg0 at a
    rw [if_pos rfl] at a
    exact a.symm
  have e := word_of (f := double) hl
  rw [hr] at e
  cases b : ng double z
  · rw [b] at e; left; rw [← e]; decide
  · rw [b] at e; right; rw [← e]; decide
/-- A small integer stays itself when it is made narrow. -/
theorem e1_narrow {z : Nat} {n : Int} (h : E1 z n) (hn : sm3 n) : fitC (some z) ∧ ∃ r, nC (some z) = some r ∧ E3 r n := by
  by_cases h0 : n = 0
  · subst h0
    rcases e1_zero h with rfl | rfl
    · exact ⟨fun b hb => by cases hb; intro _; unfold fin; decide +kernel, 0, by decide +kernel, by unfold W32; decide, by unfold fin; decide +kernel, by decide +kernel⟩
    · exact ⟨fun b hb => by cases hb; intro _; unfold fin; decide +kernel, 2147483648, by decide +kernel, by unfold W32; decide, by unfold fin; decide +kernel, by decide +kernel⟩
  · have hF := e3_int hn
    obtain ⟨y, _, hy, ey⟩ := e3_wide hF
    have u := U_pos double
    have e : z = y := word_uniq (f := double) h.1 hy.1 (by rw [h.2.2, hy.2.2]) (by rw [h.2.2]; intro q; rcases Int.mul_eq_zero.1 q with q | q <;> omega)
    have eb : tr .f64 .f32 z = floatOfInt .f32 n := by rw [e, ey]; exact back_fin hF.2.1 hF.1
    refine ⟨fun b hb => by cases hb; intro _; rw [eb]; exact hF.2.1, _, rfl, ?_⟩
    show E3 (tr .f64 .f32 z) n
    rw [eb]
    exact hF
theorem e3_eq {r s : Nat} {n : Int} (hr : E3 r n) (hs : E3 s n) : (FloatKind.f32.format.order r s == some .eq) = true := by
  have e : FloatKind.f32.format.order r s = some (compare (N single r) (N single s)) := order_fin (f := single) (by decide) hr.2.1 hs.2.1
  rw [e, hr.2.2, hs.2.2, compare_eq]
  simp

end Go.Proofs.YtcaceplnlfmejaaGreatDoor

/- The program's small functions on complex numbers. -/
namespace Go.Proofs.YtcaceplnlfmejaaGreatDoor
open Fl Go.RowKit Ieee

@[go_sem] theorem unary_neg_float' (k : FloatKind) (b : Nat) : Go.Op.unary .neg (.float k b) = pure (.float k (Go.Op.negFloat k b)) := rfl
theorem neg_def (b : Nat) : Go.Op.negFloat .f32 b = b ^^^ 2147483648 := rfl
theorem neg_neg (b : Nat) : Go.Op.negFloat .f32 (Go.Op.negFloat .f32 b) = b := by rw [neg_def, neg_def, Nat.xor_assoc, Nat.xor_self, Nat.xor_zero]
theorem neg_lt {b : Nat} (h : W32 b) : W32 (Go.Op.negFloat .f32 b) := by
  rw [neg_def]
  unfold W32 at *
  exact Nat.xor_lt_two_pow (n := 32) h (by decide)
theorem fitC_sq (x : Nat) (w : World) (u : Nat) (h : cls .f64 u = wC x) : fitC (cls .f64 (sq u w)) := by
  intro b hb
  have e1 : cls .f64 (sq (cv .f32 x .f64 w) w) = some b := by rw [cls_sq, cls_widen, ← hb, cls_sq, h]; rfl
  have e2 : sq (cv .f32 x .f64 w) w = b := by
    unfold cls at e1
    split at e1
    · cases e1
    · exact Option.some.inj e1
  rw [← e2]
  exact sq_fits x w w

theorem impl_ConjugateOf (a b : Nat) (w : World) : Calls Tryz.prog 9 #[.complex .f32 a b] w (Ret (.complex .f32 a (Go.Op.negFloat .f32 b)) w) := by
  go_enter Tryz.func9, Tryz.ntmps9
  go_wp2
  go_ret
  exact .mk' 0 rfl rfl

theorem impl_LongOf (a b x : Nat) (h : pwC a b = wC x) (w : World) : Calls Tryz.prog 11 #[.complex .f32 a b] w (RetKn .f32 (rootC x) w) := by
  have H := Lib.hid h
  clear h
  go_enter Tryz.func11, Tryz.ntmps11
  go_wp2_with fail
  refine (impl_power _ _ _).mono ?_
  rintro e w1 ⟨u, rfl, hu, _, n, rfl⟩
  have HU := Lib.hid (hu.trans H.out)
  clear hu
  go_wp2_with fail
  refine (math_Sqrt _ _).mono ?_
  rintro e w2 ⟨rfl, rfl⟩
  go_wp2
  go_ret
  exact .mk' _ (by rw [cls_nC (fitC_sq x _ u HU.out), cls_sq, HU.out]; rfl) (cv_narrow_lt _ _) (by first | rfl | simp only [World.drewN_drewN])

theorem spec_l01SqrtN (x : Nat) (w : World) : Calls Tryz.prog 44 #[.float .f32 x] w (RetKn .f32 (rootC x) w) := by
  go_enter Tryz.func44, Tryz.ntmps44
  go_wp2_with fail
  refine (math_Sqrt _ _).mono ?_
  rintro e w' ⟨rfl, rfl⟩
  go_wp2_with fail
  refine (spec_l01Narrow _ _).mono ?_
  rintro e w' ⟨w3, rfl, n, rfl⟩
  go_wp2
  go_ret
  exact .mk' _ (rootC_eq _ _ _ _) (cv_narrow_lt _ _) rfl

theorem spec_RootNumberN (x : Nat) (w : World) : Calls Tryz.prog 12 #[.float .f32 x] w (RetKn .f32 (rootC x) w) := by
  go_enter Tryz.func12, Tryz.ntmps12
  go_wp2_with fail
  refine (spec_l01SqrtN _ _).mono ?_
  rintro e w' ⟨r, rfl, hr, hb, n, rfl⟩
  have HR := Lib.hid hr; have HB := Lib.hid hb
  clear hr hb
  go_wp2
  go_ret
  exact .mk' _ HR.out HB.out rfl

theorem impl_QuotientOf (a b c d : Nat) (h1 : fitC (cop .quo .f64 (reC a b c (Go.Op.negFloat .f32 d)) (pwC c d))) (h2 : fitC (cop .quo .f64 (imC a b c (Go.Op.negFloat .f32 d)) (pwC c d))) (w : World) :
    Calls Tryz.prog 13 #[.complex .f32 a b, .complex .f32 c d] w (RetXw (nC (cop .quo .f64 (reC a b c (Go.Op.negFloat .f32 d)) (pwC c d))) (nC (cop .quo .f64 (imC a b c (Go.Op.negFloat .f32 d)) (pwC c d))) w) := by
  have H1 := Lib.hid h1; have H2 := Lib.hid h2
  clear h1 h2
  go_enter Tryz.func13, Tryz.ntmps13
  go_wp2_with fail
  refine (impl_ConjugateOf _ _ _).mono ?_
  rintro e w1 ⟨rfl, n0, rfl⟩
  go_wp2_with fail
  refine (impl_times _ _ _ _ _).mono ?_
  rintro e w2 ⟨u, v, rfl, hu, hv, n1, rfl⟩
  have HU := Lib.hid hu; have HV := Lib.hid hv
  clear hu hv
  go_wp2_with fail
  refine (impl_power _ _ _).mono ?_
  rintro e w3 ⟨p, rfl, hp, _, n2, rfl⟩
  have HP := Lib.hid hp
  clear hp
  go_wp2
  go_ret
  exact .mk' _ (by rw [cls_nC (by rw [cls_fa, HU.out, HP.out]; exact H1.out), cls_fa, HU.out, HP.out]) (by rw [cls_nC (by rw [cls_fa, HV.out, HP.out]; exact H2.out), cls_fa, HV.out, HP.out]) (cv_narrow_lt _ _) (cv_narrow_lt _ _) (by first | rfl | simp only [World.drewN_drewN])

theorem impl_ScaleComplex (a b s : Nat) (w : World) : Calls Tryz.prog 14 #[.complex .f32 a b, .float .f32 s] w (RetXw (cop .mul .f32 (cls .f32 a) (cls .f32 s)) (cop .mul .f32 (cls .f32 b) (cls .f32 s)) w) := by
  go_enter Tryz.func14, Tryz.ntmps14
  go_wp2
  go_ret
  exact .mk' _ (cls_fa _ _ _ _ _) (cls_fa _ _ _ _ _) (fa_lt .mul .f32 _ _ _) (fa_lt .mul .f32 _ _ _) rfl

theorem impl_SameComplex (a b c d : Nat) (ha : W32 a) (hb : W32 b) (hc : W32 c) (hd : W32 d) (w : World) : Calls Tryz.prog 24 #[.complex .f32 a b, .complex .f32 c d] w (Ret (.bool (same a c && same b d)) w) := by
  have HA := Lib.hid ha; have HB := Lib.hid hb; have HC := Lib.hid hc; have HD := Lib.hid hd
  clear ha hb hc hd
  go_enter Tryz.func24, Tryz.ntmps24
  go_wp2_with fail
  refine (impl_SameNumber _ _ HA.out HC.out _).mono ?_
  rintro e w1 ⟨rfl, n1, rfl⟩
  cases h1 : same a c
  · go_wp2
    go_ret
    exact .mk' _ (by rw [h1]; rfl) rfl
  · go_wp2_with fail
    refine (impl_SameNumber _ _ HB.out HD.out _).mono ?_
    rintro e w2 ⟨rfl, n2, rfl⟩
    go_wp2
    go_ret
    exact .mk' _ (by rw [h1]; rfl) (by first | rfl | simp only [World.drewN_drewN])

theorem spec_l01CSame (a b c d : Nat) (ha : W32 a) (hb : W32 b) (hc : W32 c) (hd : W32 d) (w : World) : Calls Tryz.prog 81 #[.complex .f32 a b, .complex .f32 c d] w (Ret (.bool (same a c && same b d)) w) := by
  have HA := Lib.hid ha; have HB := Lib.hid hb; have HC := Lib.hid hc; have HD := Lib.hid hd
  clear ha hb hc hd
  go_enter Tryz.func81, Tryz.ntmps81
  go_wp2_with fail
  refine (spec_l01Same _ _ HA.out HC.out _).mono ?_
  rintro e w1 ⟨rfl, n1, rfl⟩
  cases h1 : same a c
  · go_wp2
    go_ret
    exact .mk' _ (by rw [h1]; rfl) rfl
  · go_wp2_with fail
    refine (spec_l01Same _ _ HB.out HD.out _).mono ?_
    rintro e w2 ⟨rfl, n2, rfl⟩
    go_wp2
    go_ret
    exact .mk' _ (by rw [h1]; rfl) (by first | rfl | simp only [World.drewN_drewN])

theorem spec_SameComplex (a b c d : Nat) (ha : W32 a) (hb : W32 b) (hc : W32 c) (hd : W32 d) (w : World) : Calls Tryz.prog 58 #[.complex .f32 a b, .complex .f32 c d] w (Ret (.bool (same a c && same b d)) w) := by
  go_enter Tryz.func58, Tryz.ntmps58
  go_wp2_with fail
  refine (spec_l01CSame _ _ _ _ ha hb hc hd _).mono ?_
  rintro e w1 ⟨rfl, n1, rfl⟩
  go_wp2
  go_ret
  exact .mk' _ rfl rfl

theorem impl_NarrowComplex (a b : Nat) (w : World) : Calls Tryz.prog 25 #[.complex .f64 a b] w (fun e w' => ∃ u v, e = .returned (.complex .f32 (cv .f64 a .f32 u) (cv .f64 b .f32 v)) ∧ ∃ n, w' = w.drewN n) := by
  go_enter Tryz.func25, Tryz.ntmps25
  go_wp2
  go_ret
  exact ⟨_, _, rfl, _, rfl⟩

theorem impl_IsFiniteComplex (a b : Nat) (w : World) : Calls Tryz.prog 26 #[.complex .f32 a b] w (RetB (.bool (finb FloatKind.f32.format a && finb FloatKind.f32.format b)) w) := by
  have HF := Lib.hid (show (![a, b].any notFin) = (finb FloatKind.f32.format a && finb FloatKind.f32.format b) by rw [two_any, Bool.not_not, Bool.and_comm])
  go_enter Tryz.func26, Tryz.ntmps26
  go_wp2_with fail
  refine (impl_areFinite _ _ [a, b] (two_FS _ _ _)).mono ?_
  rintro e w1 ⟨rfl, n1, hw1⟩
  rw [HF.out]
  have HB1 : Hid (Below w.heap.size w w1) := Lib.hid (by rw [hw1]; exact below_dn ((Below.refl _ _).alloc (Nat.le_refl _) _) _)
  clear hw1
  go_wp2
  go_ret
  exact .mk' rfl HB1.out

end Go.Proofs.YtcaceplnlfmejaaGreatDoor

/- What is drawn from a source: complex numbers. -/
namespace Go.Proofs.YtcaceplnlfmejaaGreatDoor
open Fl Go.RowKit

def WC (z : Nat × Nat) : Prop := W32 z.1 ∧ W32 z.2
def isC (v : Value) : Prop := ∃ x y, v = .complex .f32 x y ∧ WC (x, y)
theorem src_pushC {w0 w wr w3 w4 : World} {sb : Nat} {cv : Value} {code : List Int} {nn g k c : Nat} {o : Obj} {done : List (Nat × Nat)} (H : Src w0 w3 sb cv code nn) (ho : OwnX fC 24 wr w.heap.size (.slice (some ⟨g, 0, none⟩) k c) done) (hsb : sb < w.heap.size) (hg : w.grownBy wr (some sb)) (hg3 : wr.grownBy w3 (some sb))
    (h4 : (w3.alloc o).grownBy w4 (Value.slice (some ⟨g, 0, none⟩) k c).ownBlock) : Src w0 w4 sb cv code nn ∧ w.grownBy w4 (some sb) := by
  have hl := (own_lt ho (show (Value.slice (some ⟨g, 0, none⟩) k c).ownBlock = some g from rfl)).1
  have e : (Value.slice (some ⟨g, 0, none⟩) k c).ownBlock = some g := rfl
  rw [e] at h4
  have hf := H.far
  have h5 : w3.grownBy w4 (some g) := (World.grownBy_alloc _ _ _).trans h4
  refine ⟨H.keep h5 (by simp; omega) (fun j hj => by cases hj; omega), gb_then (hg.trans hg3) h5 (fun j hj => ?_)⟩
  cases hj
  exact .inl hl
theorem own_walkC {wr w3 : World} {sb B g k c : Nat} {done : List (Nat × Nat)} (ho : OwnX fC 24 wr B (.slice (some ⟨g, 0, none⟩) k c) done) (hsb : sb < B) (hg3 : wr.grownBy w3 (some sb)) : OwnX fC 24 w3 B (.slice (some ⟨g, 0, none⟩) k c) done := by
  have hl := (own_lt ho (show (Value.slice (some ⟨g, 0, none⟩) k c).ownBlock = some g from rfl)).1
  exact World.ownsRow.kept ho hg3 (.inr (by simp [Value.ownBlock]; omega))

theorem src_complex (w0 w : World) (sb : Nat) (cv : Value) (code : List Int) (n : Nat) (h : Src w0 w sb cv code n) (hn : n + 24 ≤ 1000000) :
    Calls Tryz.prog 56 #[.pointer (some ⟨sb, 0, none⟩)] w (Dr w0 w sb cv code n 24 isC) := by
  have H := Lib.hid h; have HN := Lib.hid hn
  clear h hn
  go_enter Tryz.func56, Tryz.ntmps56
  go_wp2_with fail
  refine (src_float _ _ _ _ _ _ H.out (by have := HN.out; omega)).mono ?_
  rintro e w1 ⟨v, n1, rfl, ⟨x, rfl, hx⟩, hn1, hs, hg⟩
  have H1 := Lib.hid hs; have G1 := Lib.hid hg; have HN1 := Lib.hid hn1; have HX := Lib.hid hx
  clear hs hg hn1 hx
  go_wp2_with fail
  refine (src_float _ _ _ _ _ _ H1.out (by have := HN.out; have := HN1.out; omega)).mono ?_
  rintro e w2 ⟨v, n2, rfl, ⟨y, rfl, hy⟩, hn2, hs, hg⟩
  have H2 := Lib.hid hs; have G2 := Lib.hid hg; have HN2 := Lib.hid hn2; have HY := Lib.hid hy
  clear hs hg hn2 hy
  go_wp2
  go_ret
  exact .of ⟨_, _, rfl, HX.out, HY.out⟩ (by have := HN1.out; have := HN2.out; omega) H2.out G1.out G2.out

theorem src_fine (w0 w : World) (sb : Nat) (cv : Value) (code : List Int) (n : Nat) (h : Src w0 w sb cv code n) (hn : n + 24 ≤ 1000000) :
    Calls Tryz.prog 57 #[.pointer (some ⟨sb, 0, none⟩)] w (Dr w0 w sb cv code n 24 isC) := by
  have H := Lib.hid h; have HN := Lib.hid hn
  clear h hn
  go_enter Tryz.func57, Tryz.ntmps57
  go_wp2_with fail
  refine (src_pick _ _ _ _ _ _ H.out (by have := HN.out; omega) 65 (by decide) (by decide)).mono ?_
  rintro e w1 ⟨v, n1, rfl, ⟨x, rfl, x0, x1⟩, hn1, hs, hg⟩
  have H1 := Lib.hid hs; have G1 := Lib.hid hg; have HN1 := Lib.hid hn1
  clear hs hg hn1
  go_wp2_with fail
  refine (src_pick _ _ _ _ _ _ (H1.out.drewN _) (by have := HN.out; have := HN1.out; omega) 65 (by decide) (by decide)).mono ?_
  rintro e w2 ⟨v, n2, rfl, ⟨y, rfl, y0, y1⟩, hn2, hs, hg⟩
  have H2 := Lib.hid hs; have G2 := Lib.hid ((zb_drewN _ _ _).trans hg); have HN2 := Lib.hid hn2
  clear hs hg hn2
  go_wp2
  go_ret
  exact .of ⟨_, _, rfl, fa_lt .quo .f32 _ _ _, fa_lt .quo .f32 _ _ _⟩ (by have := HN1.out; have := HN2.out; omega) (H2.out.drewN _) (G1.out.trans G2.out) (zb_drewN _ _ _)

set_option maxRecDepth 20000 in
theorem src_complexes (w0 w : World) (sb : Nat) (cv : Value) (code : List Int) (n : Nat) (h : Src w0 w sb cv code n) (hn : n ≤ 1000) (m : Nat) (hm : m ≤ 12) :
    Calls Tryz.prog 45 #[.pointer (some ⟨sb, 0, none⟩), .int .i64 (m : Int)] w (fun e w' => ∃ v zs, e = .returned v ∧ OwnX fC 24 w' w.heap.size v zs ∧ zs.length = m ∧ (∀ z ∈ zs, WC z) ∧ w.grownBy w' (some sb)) := by
  obtain ⟨iC, hi, hz0, hz1, hz2⟩ := info_parts infoC
  have hsb : sb < w.heap.size := by obtain ⟨_, hk⟩ := h.blk; exact hk.lt
  have HSB := Lib.hid hsb
  have H := Lib.hid (h.keep (World.grownBy_alloc w (.cells #[] 24) none) (by simp) (by simp)); have HN := Lib.hid hn
  have HM := Lib.hid hm
  have HF := Lib.hid h.far
  clear h hn hm hsb
  have hm' : (m : Int) ≤ 12 := by have := HM.out; omega
  go_enter Tryz.func45, Tryz.ntmps45
  go_wp2_with fail
  refine (src_one _ _ _ _ _ _ H.out (by have := HN.out; omega) 5 (by decide) (by decide)).mono ?_
  rintro e w1 ⟨v, n1, rfl, ⟨b, rfl⟩, hn1, hs, hg⟩
  have m0 : OwnX fC 24 (w.alloc (.cells #[] 24)) w.heap.size (.slice (some ⟨w.heap.size, 0, none⟩) 0 0) ([] : List (Nat × Nat)) := World.ownsRow_made _ _ 0 (Nat.le_refl _) (by unfold maxLen; omega) rfl
  have HO0 := Lib.hid (own_walkC m0 HSB.out hg)
  clear m0
  have H1 := Lib.hid hs; have G1 := Lib.hid ((World.grownBy_alloc w (.cells #[] 24) (some sb)).trans hg); have HN1 := Lib.hid hn1
  clear hs hg hn1 H
  go_wp2_with fail
  go_loopw [1, 5] (fun i o wr => ∃ (k nn g c : Nat) (done : List (Nat × Nat)), done.length + k = m ∧ i = .int .i64 (k : Int) ∧ o = .slice (some ⟨g, 0, none⟩) done.length c ∧ OwnX fC 24 wr w.heap.size o done ∧ (∀ z ∈ done, WC z) ∧ nn ≤ n + 2 + 24 * done.length ∧ Src w0 wr sb cv code nn ∧ w.grownBy wr (some sb)) (fun i _ _ => (intOf i).toNat)
  case atStart => exact ⟨m, n1, _, _, [], by simp, rfl, rfl, HO0.out, by simp, HN1.out, H1.out, G1.out⟩
  clear HO0 H1 G1 HN1
  case round =>
    obtain ⟨k, nn, g, c, done, hk, rfl, rfl, hown, hall, hnn, hs, hg⟩ := hrel
    have HO := Lib.hid hown; have HA := Lib.hid hall; have HN2 := Lib.hid hnn; have H2 := Lib.hid hs; have G2 := Lib.hid hg; have HK := Lib.hid hk
    have hdl : (done.length : Int) ≤ 12 := by have := HM.out; omega
    clear hown hall hnn hs hg hk
    cases k with
    | zero =>
      go_wp2
      go_ret
      exact ⟨_, done, rfl, HO.out, by have := HK.out; omega, HA.out, G2.out⟩
    | succ k =>
      have hk0 : (0 : Int) < ((k + 1 : Nat) : Int) := by omega
      have hk1 : ((k + 1 : Nat) : Int) ≤ 12 := by have := HK.out; have := HM.out; omega
      have ek : ((k + 1 : Nat) : Int) - 1 = (k : Int) := by omega
      rw [show ((k + 1 : Nat) : Int) = (k : Int) + 1 by omega] at *
      cases b
      · go_wp2_with fail
        refine (src_fine _ _ _ _ _ _ H2.out (by have := HN.out; have := HN2.out; have := HK.out; have := HM.out; omega)).mono ?_
        rintro e w2 ⟨v, n2, rfl, ⟨z1, z2, rfl, hz⟩, hn2, hs, hg⟩
        obtain ⟨z, hzz⟩ : ∃ z : Nat × Nat, z = (z1, z2) := ⟨_, rfl⟩
        obtain rfl : z1 = z.1 := by rw [hzz]
        obtain rfl : z2 = z.2 := by rw [hzz]
        clear hzz
        have HO2 := Lib.hid (own_walkC HO.out HSB.out hg)
        have H3 := Lib.hid hs; have G3 := Lib.hid hg; have HN3 := Lib.hid hn2; have HZ := Lib.hid hz
        clear hs hg hn2 hz
        go_wp2_with (at_builtin; refine wpList_append_own_at _ rfl (.tmp 20) (.tmp 23) 25 rfl w.heap.size 24 iC (.complex .f32 0 0) 1 8 Tryz.underlying25 hi hz0 hz1 hz2 rfl (by decide) (.slice (some ⟨g, 0, none⟩) done.length c) done.length (done.map fC) rfl (World.ownsRow.alloc HO2.out _) ⟨w2.heap.size, 0, none⟩ 1 1 [.complex .f32 z.1 z.2] rfl rfl (news4 w2 _ _) (fun u hu => by simp at hu; subst hu; rfl) (by unfold maxLen; omega) (by omega) (by have := (G2.out.trans G3.out).size; simp; omega) ?_)
        intro v3 w3 ho hg hnil hat
        obtain ⟨g1, c1, rfl, hown⟩ := own_push ho
        have HO3 := Lib.hid hown
        have HP := Lib.hid (src_pushC H3.out HO.out HSB.out G2.out G3.out hg)
        clear ho hg hnil hat hown HO2 H3
        go_wp2
        go_roundw
        case rel => exact ⟨k, n2, g1, c1, done ++ [z], by have := HK.out; simp; omega, rfl, rfl, HO3.out, fun y hy => by rcases List.mem_append.1 hy with q | q; exact HA.out y q; (simp at q; subst q; exact HZ.out), by have := HN2.out; have := HN3.out; simp; omega, HP.out.1, HP.out.2⟩
        case measure => simp [intOf]
      · go_wp2_with fail
        refine (src_complex _ _ _ _ _ _ H2.out (by have := HN.out; have := HN2.out; have := HK.out; have := HM.out; omega)).mono ?_
        rintro e w2 ⟨v, n2, rfl, ⟨z1, z2, rfl, hz⟩, hn2, hs, hg⟩
        obtain ⟨z, hzz⟩ : ∃ z : Nat × Nat, z = (z1, z2) := ⟨_, rfl⟩
        obtain rfl : z1 = z.1 := by rw [hzz]
        obtain rfl : z2 = z.2 := by rw [hzz]
        clear hzz
        have HO2 := Lib.hid (own_walkC HO.out HSB.out hg)
        have H3 := Lib.hid hs; have G3 := Lib.hid hg; have HN3 := Lib.hid hn2; have HZ := Lib.hid hz
        clear hs hg hn2 hz
        go_wp2_with (at_builtin; refine wpList_append_own_at _ rfl (.tmp 15) (.tmp 18) 25 rfl w.heap.size 24 iC (.complex .f32 0 0) 1 8 Tryz.underlying25 hi hz0 hz1 hz2 rfl (by decide) (.slice (some ⟨g, 0, none⟩) done.length c) done.length (done.map fC) rfl (World.ownsRow.alloc HO2.out _) ⟨w2.heap.size, 0, none⟩ 1 1 [.complex .f32 z.1 z.2] rfl rfl (news4 w2 _ _) (fun u hu => by simp at hu; subst hu; rfl) (by unfold maxLen; omega) (by omega) (by have := (G2.out.trans G3.out).size; simp; omega) ?_)
        intro v3 w3 ho hg hnil hat
        obtain ⟨g1, c1, rfl, hown⟩ := own_push ho
        have HO3 := Lib.hid hown
        have HP := Lib.hid (src_pushC H3.out HO.out HSB.out G2.out G3.out hg)
        clear ho hg hnil hat hown HO2 H3
        go_wp2
        go_roundw
        case rel => exact ⟨k, n2, g1, c1, done ++ [z], by have := HK.out; simp; omega, rfl, rfl, HO3.out, fun y hy => by rcases List.mem_append.1 hy with q | q; exact HA.out y q; (simp at q; subst q; exact HZ.out), by have := HN2.out; have := HN3.out; simp; omega, HP.out.1, HP.out.2⟩
        case measure => simp [intOf]

theorem spec_B10Complex (w : World) (v : Value) (code : List Int) (h : BS w v code) (hl : code.length ≤ 1048576) :
    Calls Tryz.prog 22 #[v] w (fun e w' => ∃ x y, e = .returned (.complex .f32 x y) ∧ W32 x ∧ W32 y ∧ Below w.heap.size w w') := by
  have HFR := Lib.hid (spec_l00From w v code h hl)
  obtain ⟨a, len, cap, rfl⟩ := h.sl.shape
  clear h hl
  go_enter Tryz.func22, Tryz.ntmps22
  go_wp2_with fail
  refine HFR.out.mono ?_
  rintro e w1 ⟨rfl, hs, o, rfl⟩
  have H1 := Lib.hid hs
  clear hs HFR
  go_wp2_with fail
  refine (src_one _ _ _ _ _ _ H1.out (by omega) 4 (by decide) (by decide)).mono ?_
  rintro e w2 ⟨v, n2, rfl, ⟨b, rfl⟩, hn2, hs, hg⟩
  have H2 := Lib.hid hs; have G2 := Lib.hid hg; have HN2 := Lib.hid hn2
  clear hs hg hn2
  cases b
  · go_wp2_with fail
    refine (src_fine _ _ _ _ _ _ H2.out (by have := HN2.out; omega)).mono ?_
    rintro e w3 ⟨v, n3, rfl, ⟨x, y, rfl, hx, hy⟩, hn3, hs, hg⟩
    have G3 := Lib.hid (zb_below_new (G2.out.trans hg)); have HX := Lib.hid hx; have HY := Lib.hid hy
    clear hs hg hn3 hx hy
    go_wp2
    go_ret
    exact ⟨_, _, rfl, HX.out, HY.out, G3.out⟩
  · go_wp2_with fail
    refine (src_complex _ _ _ _ _ _ H2.out (by have := HN2.out; omega)).mono ?_
    rintro e w3 ⟨v, n3, rfl, ⟨x, y, rfl, hx, hy⟩, hn3, hs, hg⟩
    have G3 := Lib.hid (zb_below_new (G2.out.trans hg)); have HX := Lib.hid hx; have HY := Lib.hid hy
    clear hs hg hn3 hx hy
    go_wp2
    go_ret
    exact ⟨_, _, rfl, HX.out, HY.out, G3.out⟩

theorem spec_B10Any (w : World) (v : Value) (code : List Int) (h : BS w v code) (hl : code.length ≤ 1048576) (m : Nat) (hm : m ≤ 12) :
    Calls Tryz.prog 15 #[v, .int .i64 (m : Int)] w (fun e w' => ∃ v' zs, e = .returned v' ∧ XS fC w' v' zs ∧ zs.length ≤ 12 ∧ (∀ z ∈ zs, WC z) ∧ Below w.heap.size w w') := by
  have HFR := Lib.hid (spec_l00From w v code h hl)
  obtain ⟨a, len, cap, rfl⟩ := h.sl.shape
  have HM := Lib.hid hm
  clear h hl hm
  go_enter Tryz.func15, Tryz.ntmps15
  go_wp2_with fail
  refine HFR.out.mono ?_
  rintro e w1 ⟨rfl, hs, o, rfl⟩
  have H1 := Lib.hid hs
  clear hs HFR
  go_wp2_with fail
  refine (src_complexes _ _ _ _ _ _ H1.out (by omega) m HM.out).mono ?_
  rintro e w2 ⟨v', zs, rfl, ho, hzl, hw, hg⟩
  have HX := Lib.hid ho.XS; have HZ := Lib.hid hzl; have HW := Lib.hid hw; have HG := Lib.hid (zb_below_new hg)
  obtain ⟨a', len', cap', rfl⟩ := ho.XS.shape
  clear ho hzl hw hg
  go_wp2
  go_ret
  exact ⟨_, zs, rfl, HX.out, by have := HM.out; have := HZ.out; omega, HW.out, HG.out⟩

end Go.Proofs.YtcaceplnlfmejaaGreatDoor

/- Whole complex numbers, drawn; complex numbers as texts. -/
namespace Go.Proofs.YtcaceplnlfmejaaGreatDoor
open Fl Go.RowKit

def wholeV (v : Value) : Prop := ∃ m n : Int, v = .complex .f32 (floatOfInt .f32 m) (floatOfInt .f32 n) ∧ -200 ≤ m ∧ m ≤ 200 ∧ -200 ≤ n ∧ n ≤ 200

set_option maxRecDepth 20000 in
theorem spec_B10Whole (w : World) (v : Value) (code : List Int) (h : BS w v code) (hl : code.length ≤ 1048576) :
    Calls Tryz.prog 6 #[v, .int .i64 1, .int .i64 200] w (fun e w' => ∃ g c z, e = .returned (.slice (some ⟨g, 0, none⟩) 1 c) ∧ w'.cell? ⟨g, 0, none⟩ = some z ∧ wholeV z ∧ Below w.heap.size w w') := by
  obtain ⟨iC, hi, hz0, hz1, hz2⟩ := info_parts infoC
  have HFR := Lib.hid (spec_l00From w v code h hl)
  obtain ⟨a, len, cap, rfl⟩ := h.sl.shape
  clear h hl
  go_enter Tryz.func6, Tryz.ntmps6
  go_wp2_with fail
  refine HFR.out.mono ?_
  rintro e w1 ⟨rfl, hs, o, hw1⟩
  have H1 := Lib.hid (hs.keep (World.grownBy_alloc w1 (.cells #[] 24) none) (by simp) (by simp))
  have G1 : Hid (Below w.heap.size w w1) := Lib.hid (by rw [hw1]; exact (Below.refl _ _).alloc (Nat.le_refl _) _)
  have HZ : Hid (w1.heap.size = w.heap.size + 1) := Lib.hid (by rw [hw1]; simp)
  generalize hsb : w.heap.size = sb at *
  have HSB := Lib.hid hsb
  clear hs HFR hw1 hsb
  have m0 : OwnX fC 24 (w1.alloc (.cells #[] 24)) w1.heap.size (.slice (some ⟨w1.heap.size, 0, none⟩) 0 0) ([] : List (Nat × Nat)) := World.ownsRow_made _ _ 0 (Nat.le_refl _) (by unfold maxLen; omega) rfl
  have HO0 := Lib.hid m0
  have HLT : Hid (sb < w1.heap.size) := Lib.hid (by have := HZ.out; omega)
  clear m0
  go_wp2_with fail
  go_loopw [1, 8] (fun i o wr => (i = .int .i64 1 ∧ o = .slice (some ⟨w1.heap.size, 0, none⟩) 0 0 ∧ wr = w1.alloc (.cells #[] 24)) ∨ (i = .int .i64 0 ∧ ∃ (g c : Nat) (z : Value), o = .slice (some ⟨g, 0, none⟩) 1 c ∧ wr.cell? ⟨g, 0, none⟩ = some z ∧ wholeV z ∧ Below sb w wr)) (fun i _ _ => (intOf i).toNat)
  case atStart => exact .inl ⟨rfl, rfl, rfl⟩
  case round =>
    rcases hrel with ⟨rfl, rfl, hwr⟩ | ⟨rfl, g, c, z, rfl, hc, hz, hb⟩
    · rw [← hwr] at H1 HO0
      have GW : Hid (w1.grownBy wr (some sb)) := Lib.hid (by rw [hwr]; exact World.grownBy_alloc _ _ _)
      have HOw : Hid (OwnX fC 24 wr w1.heap.size (.slice (some ⟨w1.heap.size, 0, none⟩) 0 0) ([] : List (Nat × Nat))) := HO0
      clear hwr HO0
      go_wp2_with fail
      refine (src_pick _ _ _ _ _ _ H1.out (by omega) 401 (by decide) (by decide)).mono ?_
      rintro e w2 ⟨v, n2, rfl, ⟨x, rfl, x0, x1⟩, hn2, hs, hg⟩
      have H2 := Lib.hid hs; have G2 := Lib.hid (GW.out.trans hg); have HN2 := Lib.hid hn2
      have HO2 := Lib.hid (own_walkC HOw.out HLT.out hg)
      clear hs hg hn2 HOw
      go_wp2_with fail
      refine (src_pick _ _ _ _ _ _ H2.out (by have := HN2.out; omega) 401 (by decide) (by decide)).mono ?_
      rintro e w3 ⟨v, n3, rfl, ⟨y, rfl, y0, y1⟩, hn3, hs, hg⟩
      have H3 := Lib.hid hs; have G3 := Lib.hid (G2.out.trans hg)
      have HO3 := Lib.hid (own_walkC HO2.out HLT.out hg)
      clear hs hg hn3 HO2
      go_wp2_with (at_builtin; refine wpList_append_own_at _ rfl (.tmp 25) (.tmp 36) 25 rfl w1.heap.size 24 iC (.complex .f32 0 0) 1 8 Tryz.underlying25 hi hz0 hz1 hz2 rfl (by decide) (.slice (some ⟨w1.heap.size, 0, none⟩) 0 0) 0 [] rfl (World.ownsRow.alloc HO3.out _) ⟨w3.heap.size, 0, none⟩ 1 1 [.complex .f32 (floatOfInt .f32 (x - 200)) (floatOfInt .f32 (y - 200))] rfl rfl (news4 w3 _ _) (fun u hu => by simp at hu; subst hu; rfl) (by unfold maxLen; omega) (by omega) (by have := G3.out.size; simp; omega) ?_)
      intro v4 w4 ho hg hnil hat
      obtain ⟨g1, c1, rfl, hown⟩ := own_push (f := fC) (done := []) (x := (floatOfInt .f32 (x - 200), floatOfInt .f32 (y - 200))) ho
      have HC : Hid (w4.cell? ⟨g1, 0, none⟩ = some (.complex .f32 (floatOfInt .f32 (x - 200)) (floatOfInt .f32 (y - 200)))) := Lib.hid (by
        obtain ⟨b, off, e1, _, e2⟩ := hown.XS.at.2.2.out 0 _ rfl
        cases e1
        exact e2)
      have HB : Hid (Below sb w w4) := Lib.hid (by
        have hh := (src_pushC H3.out HO3.out HLT.out G3.out ⟨rfl, rfl, rfl, Nat.le_refl _, fun _ _ _ => rfl⟩ hg).2
        exact G1.out.grown hh (Nat.le_of_lt HLT.out) (fun k e => by cases e; exact Nat.le_refl _))
      clear ho hg hnil hat hown HO3
      go_wp2
      go_roundw
      case rel => exact .inr ⟨rfl, g1, c1, _, rfl, HC.out, ⟨_, _, rfl, by omega, by omega, by omega, by omega⟩, HB.out⟩
      case measure => simp [intOf]
    · have HC := Lib.hid hc; have HW := Lib.hid hz; have HB := Lib.hid hb
      clear hc hz hb
      go_wp2
      go_ret
      exact ⟨_, _, _, rfl, HC.out, HW.out, by rw [HSB.out]; exact HB.out⟩

end Go.Proofs.YtcaceplnlfmejaaGreatDoor

/- Complex numbers as texts, and read back. -/
namespace Go.Proofs.YtcaceplnlfmejaaGreatDoor
open Fl Go.RowKit

/-- The sixteen digits of a complex number. -/
def cxB (z : Nat × Nat) : ByteArray := hxB z.1 ++ hxB z.2
def txC (zs : List (Nat × Nat)) : ByteArray := joinB (zs.map cxB)
theorem cxB_size (z : Nat × Nat) : (cxB z).size = 16 := by
  rw [cxB, ByteArray.size_append, hxB, hexB_size, hxB, hexB_size]
theorem cxL (z : Nat × Nat) : (cxB z).data.toList = hexL z.1 ++ hexL z.2 := by
  rw [cxB, ByteArray.data_append, Array.toList_append]
  rfl
theorem cx_no (z : Nat × Nat) : (44 : UInt8) ∉ (cxB z).data.toList := by
  rw [cxL, List.mem_append, not_or]
  exact ⟨hx_no _ 8, hx_no _ 8⟩
theorem join_two (c : UInt8) (u v : List UInt8) (r : List (List UInt8)) : Lib.join (u :: v :: r) [c] = u ++ c :: Lib.join (v :: r) [c] := by
  unfold Lib.join
  simp [List.intercalate]
theorem join_le (c : UInt8) (n : Nat) : ∀ (xs : List (List UInt8)), (∀ u ∈ xs, u.length = n) → (Lib.join xs [c]).length ≤ (n + 1) * xs.length
  | [], _ => by simp [Lib.join_nil]
  | [u], h => by
    rw [Lib.join_one, h u (by simp)]
    simp
  | u :: v :: r, h => by
    have := join_le c n (v :: r) (fun x hx => h x (List.mem_cons_of_mem _ hx))
    have h1 := h u (by simp)
    rw [join_two, List.length_append, List.length_cons, h1, List.length_cons (a := u), Nat.mul_add]
    omega
theorem join_ge (c : UInt8) (u : List UInt8) (r : List (List UInt8)) : u.length ≤ (Lib.join (u :: r) [c]).length := by
  cases r with
  | nil => rw [Lib.join_one]; exact Nat.le_refl _
  | cons v r => rw [join_two, List.length_append]; omega
theorem cx_len (zs : List (Nat × Nat)) : (Lib.join ((zs.map cxB).map (·.data.toList)) [44]).length ≤ 17 * zs.length := by
  have := join_le 44 16 ((zs.map cxB).map (·.data.toList)) (fun u hu => by
    obtain ⟨b, hb, rfl⟩ := List.mem_map.1 hu
    obtain ⟨z, _, rfl⟩ := List.mem_map.1 hb
    exact cxB_size z)
  simpa using this
theorem txC_size (zs : List (Nat × Nat)) (h : zs.length ≤ 12) : (txC zs).size ≤ 1048576 := by
  unfold txC joinB
  split
  · decide
  · have := cx_len zs
    show (Lib.join ((zs.map cxB).map (·.data.toList)) [44]).toArray.size ≤ 1048576
    simp only [List.size_toArray]
    omega
theorem words_txC (zs : List (Nat × Nat)) : wordsB (txC zs) = zs.map cxB := by
  cases zs with
  | nil => rfl
  | cons z r =>
    have e : (txC (z :: r)).data.toList = Lib.join (((z :: r).map cxB).map (·.data.toList)) [44] := by
      rw [txC, joinB, if_neg (by simp)]
    have hne : txC (z :: r) ≠ nonB := by
      intro q
      have q2 : (txC (z :: r)).data.toList.length = 4 := by rw [q]; rfl
      rw [e, List.map_cons, List.map_cons] at q2
      have := join_ge 44 (cxB z).data.toList ((r.map cxB).map (·.data.toList))
      have h16 : (cxB z).data.toList.length = 16 := cxB_size z
      omega
    rw [wordsB, if_neg hne, partsB, e, pcs_join 44 _ (by simp) (fun u hu => by
      obtain ⟨b, hb, rfl⟩ := List.mem_map.1 hu
      obtain ⟨y, _, rfl⟩ := List.mem_map.1 hb
      exact cx_no y), List.map_map]
    have : ∀ b : ByteArray, (ofL ∘ fun x : ByteArray => x.data.toList) b = b := fun b => rfl
    rw [show (ofL ∘ fun x : ByteArray => x.data.toList) = id from funext this, List.map_id]
theorem nb2 (z : Nat × Nat) (h : WC z) : rc (cxB z) = some (nb z.1, nb z.2) := by
  have h1 : (cxB z).extract 0 8 = hxB z.1 := by
    apply ByteArray.ext
    rw [cxB, ByteArray.data_extract, ByteArray.data_append]
    have e : (hxB z.1).data.size = 8 := hexB_size _
    rw [Array.extract_append, Array.extract_eq_self_of_le (by omega), e]
    simp
  have h2 : (cxB z).extract 8 16 = hxB z.2 := by
    apply ByteArray.ext
    rw [cxB, ByteArray.data_extract, ByteArray.data_append]
    have e : (hxB z.1).data.size = 8 := hexB_size _
    have e2 : (hxB z.2).data.size = 8 := hexB_size _
    rw [Array.extract_append, e, Array.extract_eq_empty_of_le (by omega), Array.extract_eq_self_of_le (by omega)]
    simp
  rw [rc, if_pos (cxB_size z), h1, h2, rh_hx h.1, rh_hx h.2]
/-- The text of complex numbers is read back. -/
theorem rc_tx (zs : List (Nat × Nat)) (hw : ∀ z ∈ zs, WC z) (hl : zs.length ≤ 256) : rcOk (txC zs) = true ∧ rcL (txC zs) = zs.map (fun z => (nb z.1, nb z.2)) := by
  have h1 : rcOk (txC zs) = true := by
    rw [rcOk, words_txC, List.length_map, decide_eq_true hl, Bool.and_true, List.all_eq_true]
    intro p hp
    obtain ⟨z, hz, rfl⟩ := List.mem_map.1 hp
    show (rc (cxB z)).isSome = true
    rw [nb2 z (hw z hz)]
    rfl
  refine ⟨h1, ?_⟩
  rw [rcL_yes h1, words_txC]
  clear h1 hl
  induction zs with
  | nil => rfl
  | cons z r ih =>
    rw [List.map_cons, List.filterMap_cons, nb2 z (hw z (by simp)), List.map_cons, ih (fun y hy => hw y (List.mem_cons_of_mem _ hy))]

set_option maxRecDepth 20000 in
theorem impl_ComplexText (w : World) (v : Value) (zs : List (Nat × Nat)) (h : XS fC w v zs) (hw : ∀ z ∈ zs, WC z) (ht : TzC w) (hl : zs.length ≤ 256) :
    Calls Tryz.prog 17 #[v] w (fun e w' => e = .returned (.tuple #[.string (txC zs), .bool true]) ∧ Below w.heap.size w w') := by
  obtain ⟨iS, hi, hz0, hz1, hz2⟩ := info_parts infoS
  obtain ⟨a, len, cap, rfl⟩ := h.shape
  obtain ⟨rfl, hm, HC⟩ := h.at
  unfold maxLen at hm
  have HT := Lib.hid ht
  clear h ht
  have HD := Lib.hid (fun (i : Nat) (x : Nat × Nat) (hx0 : zs[i]? = some x) w h => impl_hexOf w x.1 (hw x (List.mem_of_getElem? hx0)).1 h)
  have HD2 := Lib.hid (fun (i : Nat) (x : Nat × Nat) (hx0 : zs[i]? = some x) w h => impl_hexOf w x.2 (hw x (List.mem_of_getElem? hx0)).2 h)
  have HLN := Lib.hid (fun (v : Value) (xs : List ByteArray) (w' : World) => impl_listOrNone w' w.heap.size v xs)
  clear hw
  go_enter Tryz.func17, Tryz.ntmps17
  go_wp2_with fail
  go_loopw [4, 13] (fun s i wr => ∃ k g c : Nat, k ≤ zs.length ∧ i = .int .i64 k ∧ s = .slice (some ⟨g, 0, none⟩) k c ∧ OwnX fS 9 wr w.heap.size s ((zs.take k).map cxB) ∧ Below w.heap.size w wr) (fun _ i _ => zs.length - (intOf i).toNat)
  case atStart => exact ⟨0, _, _, Nat.zero_le _, rfl, rfl, World.ownsRow_made _ _ 0 (Nat.le_refl _) (by unfold maxLen; omega) rfl, (Below.refl _ _).alloc (Nat.le_refl _) _⟩
  case round =>
    obtain ⟨k, g, c, hk, rfl, rfl, hown, hbel⟩ := hrel
    have HB := Lib.hid hbel
    have hsz := hbel.size
    have HT1 := Lib.hid (HT.out.later hbel)
    have HOW := Lib.hid hown
    have hwl : ((zs.take k).map cxB).length = k := by simp; omega
    clear hown
    by_cases hlt : k < zs.length
    · obtain ⟨x, hx0⟩ := at_of_lt hlt
      obtain ⟨b, off, rfl, hb, hc0⟩ := HC.out k x hx0
      have hc1 : wr.cell? ⟨b, off + k, none⟩ = some (.complex .f32 x.1 x.2) := (hbel.cell (p := ⟨b, off + k, none⟩) hb).trans hc0
      have HX := Lib.hid (HD.out k x hx0 wr HT1.out)
      have HY := Lib.hid (fun w => HD2.out k x hx0 w)
      have HTK : Hid ((zs.take (k + 1)).map cxB = (zs.take k).map cxB ++ [cxB x]) := Lib.hid (by rw [List.take_add_one, hx0]; simp)
      have HWL := Lib.hid hwl
      have HCX : Hid (cxB x = hexB (nb x.1) ++ hexB (nb x.2)) := Lib.hid rfl
      have h16 := cxB_size x
      clear hc0 hx0 hbel hwl HD HD2
      go_wp2_with fail
      refine HX.out.mono ?_
      rintro e w2 ⟨rfl, hb2⟩
      have HB2 := Lib.hid (HB.out.trans (hb2.mono hsz))
      have HO2 := Lib.hid (HOW.out.later hb2)
      have HT2 := Lib.hid (HT1.out.later hb2)
      have hsz2 := HB2.out.size
      clear hb2 hc1 HB HOW HX HT1
      go_wp2_with fail
      refine (HY.out _ HT2.out).mono ?_
      rintro e w3 ⟨rfl, hb3⟩
      have HB3 := Lib.hid (HB2.out.trans (hb3.mono hsz2))
      have HO3 := Lib.hid (HO2.out.later hb3)
      have hsz3 := HB3.out.size
      have hs1 := hexB_size (nb x.1)
      have hs2 := hexB_size (nb x.2)
      clear hb3 HB2 HO2 HT2 HY
      generalize cxB x = t at *
      generalize (zs.take k).map cxB = done at *
      generalize hexB (nb x.1) = t1 at *
      generalize hexB (nb x.2) = t2 at *
      have hdl := HWL.out
      go_wp2_with (at_builtin; refine wpList_append_own_at _ rfl (.tmp 17) (.tmp 25) 68 rfl w.heap.size 9 iS (.string ⟨#[]⟩) 1 16 Tryz.underlying68 hi hz0 hz1 hz2 rfl (by decide) (.slice (some ⟨g, 0, none⟩) k c) done.length (done.map fS) rfl (World.ownsRow.alloc HO3.out _) ⟨w3.heap.size, 0, none⟩ 1 1 [.string (t1 ++ t2)] rfl rfl (news4 w3 _ _) (fun u hu => by simp at hu; subst hu; rfl) (by unfold maxLen; omega) (by omega) (by simp; omega) ?_)
      intro v4 w4 ho hg hnil hat
      obtain ⟨g1, c1, rfl, hown⟩ := own_push2 (f := fS) (x := t1 ++ t2) (by rw [hdl]) ho
      rw [← HCX.out, ← HTK.out] at hown
      have HO4 := Lib.hid hown
      have HB4 := Lib.hid (push_below HB3.out HO3.out hg)
      clear ho hg hnil hat hown HO3 HB3
      go_wp2
      go_roundw
      case rel => exact ⟨k + 1, g1, c1, by omega, by go_num, rfl, HO4.out, HB4.out⟩
      case measure => simp [intOf]; omega
    · obtain rfl : k = zs.length := by omega
      rw [List.take_length] at HOW
      have hlen : (Lib.join ((zs.map cxB).map (·.data.toList)) [44]).length ≤ 140737488355328 := by
        have := cx_len zs
        omega
      have HL := Lib.hid (HLN.out _ (zs.map cxB) wr HOW.out (by simp; omega) hlen)
      clear hbel hlen hwl
      go_wp2_with fail
      refine HL.out.mono ?_
      rintro e w1 ⟨rfl, hb1⟩
      have HB1 := Lib.hid (HB.out.trans (hb1.mono hsz))
      have HJ : Hid (joinB (zs.map cxB) = txC zs) := Lib.hid rfl
      clear hb1
      rw [HJ.out]
      go_wp2
      go_ret2
      exact ⟨rfl, HB1.out⟩

end Go.Proofs.YtcaceplnlfmejaaGreatDoor

/- Products of small whole complex numbers are exact, and quotients lead back. -/
namespace Go.Proofs.YtcaceplnlfmejaaGreatDoor
open Fl Go.RowKit Ieee

/-- The word of a small integer. -/
def iw (n : Int) : Nat := floatOfInt .f32 n
def in2 (n : Int) : Prop := -200 ≤ n ∧ n ≤ 200
theorem in2_fin {n : Int} (h : in2 n) : ∃ i : Fin 401, n = (i.1 : Int) - 200 := ⟨⟨(n + 200).toNat, by unfold in2 at h; omega⟩, by unfold in2 at h; show n = (((n + 200).toNat : Nat) : Int) - 200; omega⟩
theorem tab_to : ∀ i : Fin 401, floatToIntVal .f32 (iw ((i.1 : Int) - 200)) .i64 = some ((i.1 : Int) - 200) := by decide +kernel
theorem tab_zero : ∀ i : Fin 401, (FloatKind.f32.format.order (iw ((i.1 : Int) - 200)) 0 == some .eq) = decide ((i.1 : Int) - 200 = 0) := by decide +kernel
def negOk (n : Int) : Bool := decide (Go.Op.negFloat .f32 (iw n) < 4294967296) && finb single (Go.Op.negFloat .f32 (iw n)) && decide (N single (Go.Op.negFloat .f32 (iw n)) = -n * U single)
theorem tab_neg : ∀ i : Fin 401, negOk ((i.1 : Int) - 200) = true := by decide +kernel
def twiceOk (n : Int) : Bool := match floatBits .mul .f32 (iw n) 0x40000000, floatBits .add .f32 (iw n) (iw n) with
  | some u, some v => FloatKind.f32.format.order u v == some .eq
  | _, _ => false
theorem tab_twice : ∀ i : Fin 401, twiceOk ((i.1 : Int) - 200) = true := by decide +kernel
theorem iw_to {n : Int} (h : in2 n) : floatToIntVal .f32 (iw n) .i64 = some n := by
  obtain ⟨i, rfl⟩ := in2_fin h; exact tab_to i
theorem iw_zero {n : Int} (h : in2 n) : (FloatKind.f32.format.order (iw n) 0 == some .eq) = decide (n = 0) := by
  obtain ⟨i, rfl⟩ := in2_fin h; exact tab_zero i
theorem iw_neg {n : Int} (h : in2 n) : E3 (Go.Op.negFloat .f32 (iw n)) (-n) := by
  obtain ⟨i, rfl⟩ := in2_fin h
  have := tab_neg i
  simp only [negOk, Bool.and_eq_true, decide_eq_true_eq] at this
  exact ⟨this.1.1, finb_iff.1 this.1.2, this.2⟩
theorem iw_twice {n : Int} (h : in2 n) : ∃ u v, floatBits .mul .f32 (iw n) 0x40000000 = some u ∧ floatBits .add .f32 (iw n) (iw n) = some v ∧ (FloatKind.f32.format.order u v == some .eq) = true := by
  obtain ⟨i, rfl⟩ := in2_fin h
  have := tab_twice i
  unfold twiceOk at this
  split at this
  · rename_i u v h1 h2
    exact ⟨u, v, h1, h2, this⟩
  · cases this
theorem iw_e3 {n : Int} (h : in2 n) : E3 (iw n) n := e3_int (by unfold in2 at h; unfold sm3; omega)
theorem cls_e3 {x : Nat} {n : Int} (h : E3 x n) : cls .f32 x = some x := cls_fin (k := .f32) h.2.1
theorem of_cls3 {r x : Nat} (h : cls .f32 r = some x) : r = x := by
  unfold cls at h
  split at h
  · cases h
  · exact Option.some.inj h

theorem pb {a b m n : Int} (h1 : -m ≤ a) (h2 : a ≤ m) (h3 : -n ≤ b) (h4 : b ≤ n) : -(m * n) ≤ a * b ∧ a * b ≤ m * n := by
  have hm : 0 ≤ m := by omega
  have hn : 0 ≤ n := by omega
  have h : (a * b).natAbs ≤ (m * n).natAbs := by
    rw [Int.natAbs_mul, Int.natAbs_mul]
    exact Nat.mul_le_mul (by omega) (by omega)
  have h0 : 0 ≤ m * n := Int.mul_nonneg hm hn
  omega
/-- Integers up to 2^k or so. -/
def upTo (m : Int) (n : Int) : Prop := -m ≤ n ∧ n ≤ m
theorem upTo.mul {a b m n : Int} (h : upTo m a) (k : upTo n b) : upTo (m * n) (a * b) := pb h.1 h.2 k.1 k.2
theorem upTo.add {a b m n : Int} (h : upTo m a) (k : upTo n b) : upTo (m + n) (a + b) := by unfold upTo at *; omega
theorem upTo.sub {a b m n : Int} (h : upTo m a) (k : upTo n b) : upTo (m + n) (a - b) := by unfold upTo at *; omega
theorem upTo.neg {a m : Int} (h : upTo m a) : upTo m (-a) := by unfold upTo at *; omega
theorem upTo.sm {a m : Int} (h : upTo m a) (hm : m ≤ 2251799813685248) : sm a := by unfold upTo at h; unfold Proofs.YtcaceplnlfmejaaGreatDoor.sm; omega
theorem upTo.sm3 {a m : Int} (h : upTo m a) (hm : m ≤ 16777215) : sm3 a := by unfold upTo at h; unfold Proofs.YtcaceplnlfmejaaGreatDoor.sm3; omega

theorem reC_int {x1 x2 y1 y2 : Nat} {a1 a2 b1 b2 m n : Int} (h1 : E3 x1 a1) (h2 : E3 x2 a2) (k1 : E3 y1 b1) (k2 : E3 y2 b2) (u1 : upTo m a1) (u2 : upTo m a2) (v1 : upTo n b1) (v2 : upTo n b2) (hm : m * n + m * n ≤ 2251799813685248) :
    ∃ z, reC x1 x2 y1 y2 = some z ∧ E1 z (a1 * b1 - a2 * b2) ∧ upTo (m * n + m * n) (a1 * b1 - a2 * b2) := by
  obtain ⟨p1, e1, f1, _⟩ := e3_wide h1
  obtain ⟨p2, e2, f2, _⟩ := e3_wide h2
  obtain ⟨q1, g1, i1, _⟩ := e3_wide k1
  obtain ⟨q2, g2, i2, _⟩ := e3_wide k2
  have t1 := u1.mul v1
  have t2 := u2.mul v2
  have hmn : 0 ≤ m * n := by have := t1.1; have := t1.2; omega
  obtain ⟨r, hr, hr'⟩ := e1_mul f1 i1 (t1.sm (by omega))
  obtain ⟨s, hs, hs'⟩ := e1_mul f2 i2 (t2.sm (by omega))
  obtain ⟨z, hz, hz'⟩ := e1_sub hr' hs' ((t1.sub t2).sm hm)
  exact ⟨z, by rw [reC, e1, e2, g1, g2, hr, hs, hz], hz', t1.sub t2⟩
theorem imC_int {x1 x2 y1 y2 : Nat} {a1 a2 b1 b2 m n : Int} (h1 : E3 x1 a1) (h2 : E3 x2 a2) (k1 : E3 y1 b1) (k2 : E3 y2 b2) (u1 : upTo m a1) (u2 : upTo m a2) (v1 : upTo n b1) (v2 : upTo n b2) (hm : m * n + m * n ≤ 2251799813685248) :
    ∃ z, imC x1 x2 y1 y2 = some z ∧ E1 z (a1 * b2 + a2 * b1) ∧ upTo (m * n + m * n) (a1 * b2 + a2 * b1) := by
  obtain ⟨p1, e1, f1, _⟩ := e3_wide h1
  obtain ⟨p2, e2, f2, _⟩ := e3_wide h2
  obtain ⟨q1, g1, i1, _⟩ := e3_wide k1
  obtain ⟨q2, g2, i2, _⟩ := e3_wide k2
  have t1 := u1.mul v2
  have t2 := u2.mul v1
  have hmn : 0 ≤ m * n := by have := t1.1; have := t1.2; omega
  obtain ⟨r, hr, hr'⟩ := e1_mul f1 i2 (t1.sm (by omega))
  obtain ⟨s, hs, hs'⟩ := e1_mul f2 i1 (t2.sm (by omega))
  obtain ⟨z, hz, hz'⟩ := e1_add hr' hs' ((t1.add t2).sm hm)
  exact ⟨z, by rw [imC, e1, e2, g1, g2, hr, hs, hz], hz', t1.add t2⟩
theorem pwC_eq (a b : Nat) : pwC a b = cop .add .f64 (cop .mul .f64 (wC a) (wC a)) (cop .mul .f64 (wC b) (wC b)) := rfl
theorem pwC_int {x1 x2 : Nat} {a1 a2 m : Int} (h1 : E3 x1 a1) (h2 : E3 x2 a2) (u1 : upTo m a1) (u2 : upTo m a2) (hm : m * m + m * m ≤ 2251799813685248) :
    ∃ z, pwC x1 x2 = some z ∧ E1 z (a1 * a1 + a2 * a2) ∧ upTo (m * m + m * m) (a1 * a1 + a2 * a2) := by
  obtain ⟨p1, e1, f1, _⟩ := e3_wide h1
  obtain ⟨p2, e2, f2, _⟩ := e3_wide h2
  have t1 := u1.mul u1
  have t2 := u2.mul u2
  have hmn : 0 ≤ m * m := by have := t1.1; have := t1.2; omega
  obtain ⟨r, hr, hr'⟩ := e1_mul f1 f1 (t1.sm (by omega))
  obtain ⟨s, hs, hs'⟩ := e1_mul f2 f2 (t2.sm (by omega))
  obtain ⟨z, hz, hz'⟩ := e1_add hr' hs' ((t1.add t2).sm hm)
  exact ⟨z, by rw [pwC_eq, e1, e2, hr, hs, hz], hz', t1.add t2⟩
theorem sq_nn (a : Int) : 0 ≤ a * a := by
  rw [← Int.natAbs_mul_self]
  exact Int.natCast_nonneg _
theorem sq_zero {a : Int} (h : a * a = 0) : a = 0 := by
  rcases Int.mul_eq_zero.1 h with q | q <;> exact q
/-- The power of a whole number is a whole number's word, widened. -/
theorem pwC_word {a1 a2 : Int} (h1 : in2 a1) (h2 : in2 a2) : pwC (iw a1) (iw a2) = wC (iw (a1 * a1 + a2 * a2)) := by
  have u1 : upTo 200 a1 := h1
  have u2 : upTo 200 a2 := h2
  obtain ⟨z, hz, hz', hu⟩ := pwC_int (iw_e3 h1) (iw_e3 h2) u1 u2 (by decide)
  by_cases h0 : a1 * a1 + a2 * a2 = 0
  · have n1 := sq_nn a1
    have n2 := sq_nn a2
    obtain rfl : a1 = 0 := sq_zero (by omega)
    obtain rfl : a2 = 0 := sq_zero (by omega)
    decide +kernel
  · obtain ⟨y, hy, hy', _⟩ := e3_wide (e3_int (hu.sm3 (by decide)))
    have u := U_pos double
    have e : z = y := word_uniq (f := double) hz'.1 hy'.1 (by rw [hz'.2.2, hy'.2.2]) (by rw [hz'.2.2]; intro q; rcases Int.mul_eq_zero.1 q with q | q <;> omega)
    rw [hz, e]
    exact hy.symm
theorem fit_of {o : Option Nat} {z : Nat} {n : Int} (h : o = some z) (hz : E1 z n) (hn : sm3 n) : fitC o ∧ ∃ r, nC o = some r ∧ E3 r n := by
  subst h
  exact e1_narrow hz hn
/-- A product with a conjugate, divided by the power, leads back. -/
theorem quo_re {a1 a2 b1 b2 : Int} : (a1 * b1 - a2 * b2) * b1 - (a1 * b2 + a2 * b1) * -b2 = a1 * (b1 * b1 + b2 * b2) := by
  simp only [Int.sub_mul, Int.add_mul, Int.mul_add, Int.mul_neg, Int.mul_assoc]
  have e1 : a2 * (b2 * b1) = a2 * (b1 * b2) := by rw [Int.mul_comm b2 b1]
  rw [e1]
  omega
theorem quo_im {a1 a2 b1 b2 : Int} : (a1 * b1 - a2 * b2) * -b2 + (a1 * b2 + a2 * b1) * b1 = a2 * (b1 * b1 + b2 * b2) := by
  simp only [Int.sub_mul, Int.add_mul, Int.mul_add, Int.mul_neg, Int.mul_assoc]
  have e1 : a1 * (b2 * b1) = a1 * (b1 * b2) := by rw [Int.mul_comm b2 b1]
  rw [e1]
  omega

/-- The call returns a complex number whose parts are these integers. -/
def RetE (m n : Int) (w : World) (e : Ending) (w' : World) : Prop := ∃ r i, e = .returned (.complex .f32 r i) ∧ E3 r m ∧ E3 i n ∧ ∃ k, w' = w.drewN k

theorem mulE (x1 x2 y1 y2 : Nat) (a1 a2 b1 b2 m n : Int) (h1 : E3 x1 a1) (h2 : E3 x2 a2) (k1 : E3 y1 b1) (k2 : E3 y2 b2) (u1 : upTo m a1) (u2 : upTo m a2) (v1 : upTo n b1) (v2 : upTo n b2) (hm : m * n + m * n ≤ 16777215) (w : World) :
    Calls Tryz.prog 7 #[.complex .f32 x1 x2, .complex .f32 y1 y2] w (RetE (a1 * b1 - a2 * b2) (a1 * b2 + a2 * b1) w) := by
  obtain ⟨z, hz, hz', hu⟩ := reC_int h1 h2 k1 k2 u1 u2 v1 v2 (by omega)
  obtain ⟨y, hy, hy', hv⟩ := imC_int h1 h2 k1 k2 u1 u2 v1 v2 (by omega)
  obtain ⟨f1, r, hr, hr'⟩ := fit_of hz hz' (hu.sm3 hm)
  obtain ⟨f2, s, hs, hs'⟩ := fit_of hy hy' (hv.sm3 hm)
  refine (impl_MulComplex _ _ _ _ f1 f2 w).mono ?_
  rintro e w' ⟨p, q, rfl, hp, hq, _, _, k, hw⟩
  obtain rfl := of_cls3 (hp.trans hr)
  obtain rfl := of_cls3 (hq.trans hs)
  exact ⟨_, _, rfl, hr', hs', k, hw⟩

theorem powE (a1 a2 : Int) (h1 : in2 a1) (h2 : in2 a2) (w : World) :
    Calls Tryz.prog 8 #[.complex .f32 (iw a1) (iw a2)] w (fun e w' => ∃ r, e = .returned (.float .f32 r) ∧ E3 r (a1 * a1 + a2 * a2) ∧ ∃ k, w' = w.drewN k) := by
  have u1 : upTo 200 a1 := h1
  have u2 : upTo 200 a2 := h2
  obtain ⟨z, hz, hz', hu⟩ := pwC_int (iw_e3 h1) (iw_e3 h2) u1 u2 (by decide)
  obtain ⟨f1, r, hr, hr'⟩ := fit_of hz hz' (hu.sm3 (by decide))
  refine (impl_PowerOf _ _ f1 w).mono ?_
  rintro e w' ⟨p, rfl, hp, _, k, hw⟩
  obtain rfl := of_cls3 (hp.trans hr)
  exact ⟨_, rfl, hr', k, hw⟩

theorem quoE (p1 p2 : Nat) (a1 a2 b1 b2 : Int) (h1 : in2 a1) (h2 : in2 a2) (k1 : in2 b1) (k2 : in2 b2) (g1 : E3 p1 (a1 * b1 - a2 * b2)) (g2 : E3 p2 (a1 * b2 + a2 * b1)) (hb : b1 * b1 + b2 * b2 ≠ 0) (w : World) :
    Calls Tryz.prog 13 #[.complex .f32 p1 p2, .complex .f32 (iw b1) (iw b2)] w (RetE a1 a2 w) := by
  have u1 : upTo 200 a1 := h1
  have u2 : upTo 200 a2 := h2
  have v1 : upTo 200 b1 := k1
  have v2 : upTo 200 b2 := k2
  have U1 : upTo 80000 (a1 * b1 - a2 * b2) := (u1.mul v1).sub (u2.mul v2)
  have U2 : upTo 80000 (a1 * b2 + a2 * b1) := (u1.mul v2).add (u2.mul v1)
  obtain ⟨z, hz, hz', _⟩ := reC_int g1 g2 (iw_e3 k1) (iw_neg k2) U1 U2 v1 v2.neg (by decide)
  obtain ⟨y, hy, hy', _⟩ := imC_int g1 g2 (iw_e3 k1) (iw_neg k2) U1 U2 v1 v2.neg (by decide)
  obtain ⟨d, hd, hd', _⟩ := pwC_int (iw_e3 k1) (iw_e3 k2) v1 v2 (by decide)
  rw [quo_re] at hz'
  rw [quo_im] at hy'
  have n1 := sq_nn b1
  have n2 := sq_nn b2
  obtain ⟨q1, hq1, hq1'⟩ := e1_quo hz' hd' (by omega) (u1.sm (by decide))
  obtain ⟨q2, hq2, hq2'⟩ := e1_quo hy' hd' (by omega) (u2.sm (by decide))
  have e1 : cop .quo .f64 (reC p1 p2 (iw b1) (Go.Op.negFloat .f32 (iw b2))) (pwC (iw b1) (iw b2)) = some q1 := by rw [hz, hd, hq1]
  have e2 : cop .quo .f64 (imC p1 p2 (iw b1) (Go.Op.negFloat .f32 (iw b2))) (pwC (iw b1) (iw b2)) = some q2 := by rw [hy, hd, hq2]
  obtain ⟨f1, r, hr, hr'⟩ := fit_of e1 hq1' (u1.sm3 (by decide))
  obtain ⟨f2, s, hs, hs'⟩ := fit_of e2 hq2' (u2.sm3 (by decide))
  refine (impl_QuotientOf _ _ _ _ f1 f2 w).mono ?_
  rintro e w' ⟨p, q, rfl, hp, hq, _, _, k, hw⟩
  obtain rfl := of_cls3 (hp.trans hr)
  obtain rfl := of_cls3 (hq.trans hs)
  exact ⟨_, _, rfl, hr', hs', k, hw⟩

theorem scaE (a1 a2 : Int) (h1 : in2 a1) (h2 : in2 a2) : ∃ u1 v1 u2 v2, floatBits .add .f32 (iw a1) (iw a1) = some v1 ∧ floatBits .add .f32 (iw a2) (iw a2) = some v2 ∧ (FloatKind.f32.format.order u1 v1 == some .eq) = true ∧ (FloatKind.f32.format.order u2 v2 == some .eq) = true ∧
    ∀ w, Calls Tryz.prog 14 #[.complex .f32 (iw a1) (iw a2), .float .f32 1073741824] w (Ret (.complex .f32 u1 u2) w) := by
  obtain ⟨u1, v1, e1, f1, o1⟩ := iw_twice h1
  obtain ⟨u2, v2, e2, f2, o2⟩ := iw_twice h2
  refine ⟨u1, v1, u2, v2, f1, f2, o1, o2, fun w => (impl_ScaleComplex _ _ _ w).mono ?_⟩
  rintro e w' ⟨p, q, rfl, hp, hq, _, _, k, hw⟩
  have ht : cls .f32 1073741824 = some 1073741824 := by decide +kernel
  rw [cls_e3 (iw_e3 h1), ht] at hp
  rw [cls_e3 (iw_e3 h2), ht] at hq
  obtain rfl := of_cls3 (hp.trans e1)
  obtain rfl := of_cls3 (hq.trans e2)
  exact .mk' k rfl hw

set_option maxRecDepth 20000 in
theorem laws_b10Same (w : World) (v1 v2 : Value) (zs : List (Nat × Nat)) (h1 : XS fC w v1 (zs.map fun z => (nb z.1, nb z.2))) (h2 : XS fC w v2 zs) (hz : ∀ z ∈ zs, WC z) (hl : zs.length ≤ 12) :
    Calls Tryz.prog 23 #[v1, v2] w (Ret (.bool true) w) := by
  obtain ⟨a1, l1, c1, rfl⟩ := h1.shape
  obtain ⟨a2, l2, c2, rfl⟩ := h2.shape
  obtain ⟨rfl, _, _⟩ := h1.at
  obtain ⟨rfl, _, _⟩ := h2.at
  rw [List.length_map] at h1 ⊢
  have H1 := Lib.hid h1; have H2 := Lib.hid h2; have HZ := Lib.hid hz
  have hl' : (zs.length : Int) ≤ 12 := by omega
  clear h1 h2 hz
  go_enter Tryz.func23, Tryz.ntmps23
  go_wp2_with fail
  go_loopw [13] (fun i wr => ∃ k n : Nat, k ≤ zs.length ∧ i = .int .i64 k ∧ wr = w.drewN n) (fun i _ => zs.length - (intOf i).toNat)
  case atStart => exact ⟨0, 0, Nat.zero_le _, rfl, rfl⟩
  case round =>
    obtain ⟨k, n, hk, rfl, hw⟩ := hrel
    have HW := Lib.hid hw
    by_cases hlt : k < zs.length
    · obtain ⟨z, hz⟩ := at_of_lt hlt
      obtain ⟨b, off, rfl, hb, hc0⟩ := H2.out.at.2.2.out k z hz
      obtain ⟨b', off', rfl, hb', hc0'⟩ := H1.out.at.2.2.out k (nb z.1, nb z.2) (by rw [List.getElem?_map, hz]; rfl)
      have HZ1 := Lib.hid (HZ.out z (List.mem_of_getElem? hz))
      have hc1 : wr.cell? ⟨b, off + k, none⟩ = some (.complex .f32 z.1 z.2) := by rw [hw]; exact hc0
      have hc1' : wr.cell? ⟨b', off' + k, none⟩ = some (.complex .f32 (nb z.1) (nb z.2)) := by rw [hw]; exact hc0'
      clear hc0 hc0' hz hw
      go_wp2_with fail
      refine Soft.region (fun _ _ v => v = .bool true) (by kernel_rfl) (by kernel_rfl) ?_
      iterate 8 (with_reducible refine Soft.step_k (fun K hK => ?_); go_simp; (try intro nn); with_reducible refine hK _ ?_; clear hK K)
      refine Soft.step_k (fun K hK => ?_)
      go_simp
      refine ⟨fun n1 => (spec_SameComplex _ _ _ _ (nb_lt HZ1.out.1) (nb_lt HZ1.out.2) HZ1.out.1 HZ1.out.2 _).mono fun _ _ h => by rw [same_nb, same_nb] at h; exact h.soft, hK _ ?_⟩
      clear hK K
      iterate 1 (with_reducible refine Soft.step_k (fun K hK => ?_); go_simp; (try intro nn); with_reducible refine hK _ ?_; clear hK K)
      refine Soft.wpSoft_nil ?_
      intro n2
      go_wp2
      go_roundw
      case rel => exact ⟨k + 1, _, by omega, by go_num, by rw [HW.out, World.drewN_drewN]⟩
      case measure => simp [intOf]; omega
    · obtain rfl : k = zs.length := by omega
      clear hw
      go_wp2
      go_ret
      exact .mk' _ rfl HW.out

end Go.Proofs.YtcaceplnlfmejaaGreatDoor
