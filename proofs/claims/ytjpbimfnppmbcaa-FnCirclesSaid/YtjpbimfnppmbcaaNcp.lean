/- Phasors of 64ths of turns: their words, angles, powers and products. -/
import Derived.Test.YtjpbimfnppmbcaaWr9
import Derived.Test.YtjpbimfnppmbcaaWr5
import Derived.Test.YtjpbimfnppmbcaaCx
import Derived.Test.YtjpbimfnppmbcaaNcf
namespace Go.Proofs.Ytjpbimfnppmbcaa
open Fl Go.RowKit Ieee

def yW (A : Int) : Nat := opw .quo (floatOfInt .f64 A) 4634204016564240384
def pR (r : Nat) : Nat := [1065353216, 1065272429, 1065030846, 1064630795, 1064076126, 1063372184, 1062525745, 1061544963, 1060439283, 1059219353, 1057896922, 1056004842, 1053028117, 1049927729, 1044891074, 1036565814, 0, 3184049462, 3192374722, 3197411377, 3200511765, 3203488490, 3205380570, 3206703001, 3207922931, 3209028611, 3210009393, 3210855832, 3211559774, 3212114443, 3212514494, 3212756077, 3212836864, 3212756077, 3212514494, 3212114443, 3211559774, 3210855832, 3210009393, 3209028611, 3207922931, 3206703001, 3205380570, 3203488490, 3200511765, 3197411377, 3192374722, 3184049462, 0, 1036565814, 1044891074, 1049927729, 1053028117, 1056004842, 1057896922, 1059219353, 1060439283, 1061544963, 1062525745, 1063372184, 1064076126, 1064630795, 1065030846, 1065272429].getD r 0
def pI (r : Nat) : Nat := [0, 1036565814, 1044891074, 1049927729, 1053028117, 1056004842, 1057896922, 1059219353, 1060439283, 1061544963, 1062525745, 1063372184, 1064076126, 1064630795, 1065030846, 1065272429, 1065353216, 1065272429, 1065030846, 1064630795, 1064076126, 1063372184, 1062525745, 1061544963, 1060439283, 1059219353, 1057896922, 1056004842, 1053028117, 1049927729, 1044891074, 1036565814, 0, 3184049462, 3192374722, 3197411377, 3200511765, 3203488490, 3205380570, 3206703001, 3207922931, 3209028611, 3210009393, 3210855832, 3211559774, 3212114443, 3212514494, 3212756077, 3212836864, 3212756077, 3212514494, 3212114443, 3211559774, 3210855832, 3210009393, 3209028611, 3207922931, 3206703001, 3205380570, 3203488490, 3200511765, 3197411377, 3192374722, 3184049462].getD r 0
def aW (r : Nat) : Nat := [0, 1015021568, 1023410176, 1027604479, 1031798784, 1033895936, 1035993088, 1038090240, 1040187392, 1041235968, 1042284544, 1043333120, 1044381696, 1045430272, 1046478848, 1047527424, 1048576000, 1049100288, 1049624576, 1050148864, 1050673152, 1051197440, 1051721728, 1052246016, 1052770304, 1053294592, 1053818880, 1054343168, 1054867456, 1055391744, 1055916032, 1056440320, 1056964608, 3203923968, 3203399680, 3202875392, 3202351104, 3201826816, 3201302528, 3200778240, 3200253952, 3199729664, 3199205376, 3198681088, 3198156800, 3197632512, 3197108224, 3196583936, 3196059648, 3195011072, 3193962496, 3192913920, 3191865344, 3190816768, 3189768192, 3188719616, 3187671040, 3185573888, 3183476736, 3181379584, 3179282432, 3175088127, 3170893824, 3162505216].getD r 0
def kRe (r : Nat) : Int := ([1099511627776, 1094217170944, 1078384787456, 1052167045120, 1015816257536, 969682714624, 914210488320, 849933959168, 777472114688, 697522782208, 610855944192, 518306201600, 420764876800, 319171362816, 214504079360, 107770986496, 0, -107770986496, -214504079360, -319171362816, -420764876800, -518306201600, -610855944192, -697522782208, -777472114688, -849933959168, -914210488320, -969682714624, -1015816257536, -1052167045120, -1078384787456, -1094217170944, -1099511627776, -1094217170944, -1078384787456, -1052167045120, -1015816257536, -969682714624, -914210488320, -849933959168, -777472114688, -697522782208, -610855944192, -518306201600, -420764876800, -319171362816, -214504079360, -107770986496, 0, 107770986496, 214504079360, 319171362816, 420764876800, 518306201600, 610855944192, 697522782208, 777472114688, 849933959168, 914210488320, 969682714624, 1015816257536, 1052167045120, 1078384787456, 1094217170944] : List Int).getD r 0
def kIm (r : Nat) : Int := ([0, 107770986496, 214504079360, 319171362816, 420764876800, 518306201600, 610855944192, 697522782208, 777472114688, 849933959168, 914210488320, 969682714624, 1015816257536, 1052167045120, 1078384787456, 1094217170944, 1099511627776, 1094217170944, 1078384787456, 1052167045120, 1015816257536, 969682714624, 914210488320, 849933959168, 777472114688, 697522782208, 610855944192, 518306201600, 420764876800, 319171362816, 214504079360, 107770986496, 0, -107770986496, -214504079360, -319171362816, -420764876800, -518306201600, -610855944192, -697522782208, -777472114688, -849933959168, -914210488320, -969682714624, -1015816257536, -1052167045120, -1078384787456, -1094217170944, -1099511627776, -1094217170944, -1078384787456, -1052167045120, -1015816257536, -969682714624, -914210488320, -849933959168, -777472114688, -697522782208, -610855944192, -518306201600, -420764876800, -319171362816, -214504079360, -107770986496] : List Int).getD r 0
def pwW (r : Nat) : Nat := [1065353216, 1065353216, 1065353215, 1065353216, 1065353215, 1065353216, 1065353216, 1065353215, 1065353215, 1065353215, 1065353216, 1065353216, 1065353215, 1065353216, 1065353215, 1065353216, 1065353216, 1065353216, 1065353215, 1065353216, 1065353215, 1065353216, 1065353216, 1065353215, 1065353215, 1065353215, 1065353216, 1065353216, 1065353215, 1065353216, 1065353215, 1065353216, 1065353216, 1065353216, 1065353215, 1065353216, 1065353215, 1065353216, 1065353216, 1065353215, 1065353215, 1065353215, 1065353216, 1065353216, 1065353215, 1065353216, 1065353215, 1065353216, 1065353216, 1065353216, 1065353215, 1065353216, 1065353215, 1065353216, 1065353216, 1065353215, 1065353215, 1065353215, 1065353216, 1065353216, 1065353215, 1065353216, 1065353215, 1065353216].getD r 0
set_option maxRecDepth 100000
/-- The word of a 64th of turns, and what is left of whole and quarter turns. -/
def yB (i : Nat) : Bool := (floatBits .quo .f64 (floatOfInt .f64 ((i : Int) - 256)) 4634204016564240384).isSome && decide (yW ((i : Int) - 256) < 18446744073709551616) && finb FloatKind.f64.format (yW ((i : Int) - 256)) &&
  decide ((N double (yW ((i : Int) - 256))).natAbs < 2 ^ 52 * 2 ^ (-double.leastPlace).toNat) && Nat.beq (fQ (yW ((i : Int) - 256))) (i % 64 / 16) && Nat.beq (fq (yW ((i : Int) - 256)) (i % 64 / 16)) (yW ((i % 16 : Nat) : Int))
theorem y_tab : ∀ i : Fin 511, yB i.1 = true := by decide +kernel
theorem ph_tab : ∀ r : Fin 64, tr .f64 .f32 (phRe (r.1 / 16) (yW ((r.1 % 16 : Nat) : Int))) = pR r.1 ∧ tr .f64 .f32 (phIm (r.1 / 16) (yW ((r.1 % 16 : Nat) : Int))) = pI r.1 := by decide +kernel
theorem y_ok {i : Nat} (h : i < 511) : (∀ w, fa .quo .f64 (floatOfInt .f64 ((i : Int) - 256)) 4634204016564240384 w = yW ((i : Int) - 256)) ∧ yW ((i : Int) - 256) < 2 ^ 64 ∧ phR (yW ((i : Int) - 256)) = (some (pR (i % 64)), some (pI (i % 64))) := by
  have hb := y_tab ⟨i, h⟩
  simp only [yB, Bool.and_eq_true, decide_eq_true_eq] at hb
  obtain ⟨⟨⟨⟨⟨h1, h2⟩, h3⟩, h4⟩, h5⟩, h6⟩ := hb
  have h5 := Nat.eq_of_beq_eq_true h5
  have h6 := Nat.eq_of_beq_eq_true h6
  obtain ⟨z, hz⟩ := Option.isSome_iff_exists.1 h1
  have ez : yW ((i : Int) - 256) = z := opw_some hz
  refine ⟨fun w => by rw [fa_some hz, ez], h2, ?_⟩
  rw [phR_small h3 ⟨finb_iff.1 h3, h4⟩ h5, h6]
  have := ph_tab ⟨i % 64, Nat.mod_lt _ (by decide)⟩
  simp only at this
  have e : i % 64 % 16 = i % 16 := by omega
  rw [e] at this
  rw [this.1, this.2]
def angB (r : Nat) : Bool := finb FloatKind.f32.format (pR r) && finb FloatKind.f32.format (pI r) && !(decide (N double (tr .f32 .f64 (pR r)) = 0) && decide (N double (tr .f32 .f64 (pI r)) = 0)) && Nat.beq (tr .f64 .f32 (angW (tr .f32 .f64 (pI r)) (tr .f32 .f64 (pR r)))) (aW r)
theorem ang_tab : ∀ r : Fin 64, angB r.1 = true := by decide +kernel
theorem ang_ok {r : Nat} (h : r < 64) : angC (pI r) (pR r) = some (aW r) := by
  have hb := ang_tab ⟨r, h⟩
  simp only [angB, Bool.and_eq_true] at hb
  obtain ⟨⟨⟨h1, h2⟩, h3⟩, h4⟩ := hb
  rw [angC_some h2 h1 (by intro q; rw [decide_eq_true q.1, decide_eq_true q.2] at h3; cases h3), Nat.eq_of_beq_eq_true h4]
/-- The angle of the unit upwards: a quarter. -/
theorem ang_up : angC 1065353216 0 = some 1048576000 := by
  rw [angC_some (by decide) (by decide) (by decide +kernel)]
  decide +kernel
def exB (r : Nat) : Bool := decide (pR r < 4294967296) && decide (pI r < 4294967296) && finb FloatKind.f32.format (pR r) && finb FloatKind.f32.format (pI r) && jcB (tr .f32 .f64 (pR r)) (kRe r) (kRe r) && jcB (tr .f32 .f64 (pI r)) (kIm r) (kIm r) && decide (-1099511627776 ≤ kRe r ∧ kRe r ≤ 1099511627776 ∧ -1099511627776 ≤ kIm r ∧ kIm r ≤ 1099511627776)
theorem ex_tab : ∀ r : Fin 64, exB r.1 = true := by decide +kernel
theorem ex_ok {r : Nat} (h : r < 64) : (W32 (pR r) ∧ W32 (pI r)) ∧ (finb FloatKind.f32.format (pR r) = true ∧ finb FloatKind.f32.format (pI r) = true) ∧ (Jn (some (tr .f32 .f64 (pR r))) (kRe r) (kRe r) ∧ Jn (some (tr .f32 .f64 (pI r))) (kIm r) (kIm r)) ∧ -1099511627776 ≤ kRe r ∧ kRe r ≤ 1099511627776 ∧ -1099511627776 ≤ kIm r ∧ kIm r ≤ 1099511627776 := by
  have hb := ex_tab ⟨r, h⟩
  simp only [exB, Bool.and_eq_true, decide_eq_true_eq] at hb
  obtain ⟨⟨⟨⟨⟨⟨h1, h2⟩, h3⟩, h4⟩, h5⟩, h6⟩, h7⟩ := hb
  exact ⟨⟨h1, h2⟩, ⟨h3, h4⟩, ⟨jn_const h5, jn_const h6⟩, h7⟩
def pwB (r : Nat) : Bool := (match pwC (pR r) (pI r) with
  | some z => finb FloatKind.f32.format (tr .f64 .f32 z) && Nat.beq (tr .f64 .f32 z) (pwW r)
  | none => false) && finb FloatKind.f32.format (pwW r) && jcB (tr .f32 .f64 (pwW r)) (1099511627776 - 100000000) (1099511627776 + 100000000)
theorem pw_tab : ∀ r : Fin 64, pwB r.1 = true := by decide +kernel
theorem pw_ok {r : Nat} (h : r < 64) : fitC (pwC (pR r) (pI r)) ∧ nC (pwC (pR r) (pI r)) = some (pwW r) ∧ finb FloatKind.f32.format (pwW r) = true ∧ Jn (some (tr .f32 .f64 (pwW r))) (1099511627776 - 100000000) (1099511627776 + 100000000) := by
  have hb := pw_tab ⟨r, h⟩
  simp only [pwB, Bool.and_eq_true] at hb
  obtain ⟨⟨h1, h2⟩, h3⟩ := hb
  split at h1
  · rename_i z hz
    rw [Bool.and_eq_true] at h1
    have e := Nat.eq_of_beq_eq_true h1.2
    rw [hz]
    refine ⟨fun b hb => ?_, by rw [← e]; rfl, h2, jn_const h3⟩
    cases hb
    exact fun _ => finb_iff.1 h1.1
  · cases h1
/-- Near, in steps of the lattice. -/
def nearB (i j : Nat) : Bool := decide (-100000000 ≤ kRe i * kRe j / 1099511627776 - kIm i * kIm j / 1099511627776 - kRe ((i + j) % 64)) && decide (kRe i * kRe j / 1099511627776 - kIm i * kIm j / 1099511627776 - kRe ((i + j) % 64) ≤ 100000000) &&
  decide (-100000000 ≤ kRe i * kIm j / 1099511627776 + kIm i * kRe j / 1099511627776 - kIm ((i + j) % 64)) && decide (kRe i * kIm j / 1099511627776 + kIm i * kRe j / 1099511627776 - kIm ((i + j) % 64) ≤ 100000000)
theorem near_tab : ∀ i : Fin 64, ∀ j : Fin 64, nearB i.1 j.1 = true := by decide +kernel

/-! ### Products of exact numbers, made narrow -/
theorem jn_mulx {a b : Option Nat} {k m : Int} (ha : Jn a k k) (hb : Jn b m m) (h1 : okf (k * m / 1099511627776)) (h2 : okf (k * m / 1099511627776 + 1)) : Jn (cop .mul .f64 a b) (k * m / 1099511627776) (k * m / 1099511627776 + 1) := by
  obtain ⟨x, rfl, _, hx, x1, x2⟩ := ha
  obtain ⟨y, rfl, _, hy, y1, y2⟩ := hb
  obtain ⟨cf, cn⟩ := fw_spec h1.1 h1.2
  obtain ⟨df, dn⟩ := fw_spec h2.1 h2.2
  have v := Vf_pos
  have vv : 0 ≤ Vf * Vf := Int.le_of_lt (Int.mul_pos v v)
  have ex : N double x = k * Vf := Int.le_antisymm x2 x1
  have ey : N double y = m * Vf := Int.le_antisymm y2 y1
  have e1 : k * m / 1099511627776 * 1099511627776 ≤ k * m := by generalize k * m = p; omega
  have e2 : k * m ≤ (k * m / 1099511627776 + 1) * 1099511627776 := by generalize k * m = p; omega
  have e3 := Int.mul_le_mul_of_nonneg_right e1 vv
  have e4 := Int.mul_le_mul_of_nonneg_right e2 vv
  obtain ⟨z, hz, hlt, hf, z1, z2⟩ := mul_bd (f := double) (by decide) (by decide) hx hy cf df (by rw [cn, scf, ex, ey, mmm k Vf m Vf]; exact e3) (by rw [dn, scf, ex, ey, mmm k Vf m Vf]; exact e4)
  exact ⟨z, hz, hlt, hf, by rw [← cn]; exact z1, by rw [← dn]; exact z2⟩
/-- The lattice of singles: 2 to the -23. -/
def gw (l : Int) : Nat := single.word (decide (l < 0)) (rg single l.natAbs (-23))
theorem gw_spec {l : Int} (h1 : -16777215 ≤ l) (h2 : l ≤ 16777215) : fin single (gw l) ∧ N single (gw l) * 2 ^ gapP = l * 131072 * Vf := by
  have hq : l.natAbs < 2 ^ 24 := by omega
  unfold gw
  generalize hn : l.natAbs = q at *
  have hb : rg0 single q (-23) ≤ rg0 single (2 ^ 24) (-23) := rg0_mono _ _ (Nat.le_of_lt hq)
  have hfin : rg0 single q (-23) < single.infRung := Nat.lt_of_le_of_lt hb (by decide +kernel)
  have hrg : rg single q (-23) = rg0 single q (-23) := by unfold rg; omega
  have hlt0 : rg0 single q (-23) < single.signWeight := Nat.lt_trans hfin single.infRung_lt
  have hnum : num single (rg0 single q (-23)) = q * 2 ^ 126 := by
    have := rg0_rep (f := single) (p := -23) (m := q) hq (by decide)
    rw [this, show (-23 - single.leastPlace).toNat = 126 by decide]
  rw [hrg]
  refine ⟨?_, ?_⟩
  · unfold fin; rw [rung_word _ _ hlt0]; exact hfin
  · rw [N_word _ _ hlt0, hnum]
    have hv : (2 : Int) ^ 126 * 2 ^ gapP = 131072 * Vf := by
      unfold Vf
      rw [show (131072 : Int) = 2 ^ 17 by decide, ← Int.pow_add, ← Int.pow_add, show 126 + gapP = 17 + fp by decide]
    have e : ∀ t : Int, t * 2 ^ 126 * 2 ^ gapP = t * 131072 * Vf := by intro t; rw [Int.mul_assoc, hv, Int.mul_assoc]
    rcases Int.lt_or_le l 0 with c | c
    · have el : l = -(q : Int) := by omega
      rw [el, if_pos (by simp; omega), Int.natCast_mul, Int.natCast_pow, ← Int.neg_mul]
      exact e _
    · have el : l = (q : Int) := by omega
      rw [el, if_neg (by simp), Int.natCast_mul, Int.natCast_pow]
      exact e _
/-- A number made narrow stays between two of the lattice of singles. -/
theorem jn_narrow {z : Nat} {l h : Int} (hz : Jn (some z) l h) (h1 : -1649267441664 ≤ l) (h2 : h ≤ 1649267441664) (h3 : l ≤ h) : fitC (some z) ∧ finb FloatKind.f32.format (tr .f64 .f32 z) = true ∧ Jn (some (tr .f32 .f64 (tr .f64 .f32 z))) (l - 131072) (h + 131072) := by
  obtain ⟨z', e, _, hf, z1, z2⟩ := hz
  cases e
  obtain ⟨cf, cn⟩ := gw_spec (l := l / 131072) (by omega) (by omega)
  obtain ⟨df, dn⟩ := gw_spec (l := (h + 131071) / 131072) (by omega) (by omega)
  have v := Vf_pos
  have k1 : l / 131072 * 131072 * Vf ≤ l * Vf := Int.mul_le_mul_of_nonneg_right (by omega) (Int.le_of_lt v)
  have k2 : h * Vf ≤ (h + 131071) / 131072 * 131072 * Vf := Int.mul_le_mul_of_nonneg_right (by omega) (Int.le_of_lt v)
  obtain ⟨rf, r1, r2⟩ := conv_bd (f := double) (g := single) (k := gapP) (by decide) hf (by decide) cf df (by rw [cn]; exact Int.le_trans k1 z1) (by rw [dn]; exact Int.le_trans z2 k2)
  change fin single (tr .f64 .f32 z) at rf
  change N single (gw (l / 131072)) ≤ N single (tr .f64 .f32 z) at r1
  change N single (tr .f64 .f32 z) ≤ N single (gw ((h + 131071) / 131072)) at r2
  refine ⟨fun b hb => by cases hb; exact fun _ => rf, finb_iff.2 rf, ?_⟩
  obtain ⟨wf, wn, _⟩ := widen rf
  have wn' : N double (tr .f32 .f64 (tr .f64 .f32 z)) = N single (tr .f64 .f32 z) * 2 ^ gapP := wn
  have g0 : (0 : Int) ≤ 2 ^ gapP := Int.pow_nonneg (by decide)
  have q1 := Int.mul_le_mul_of_nonneg_right r1 g0
  have q2 := Int.mul_le_mul_of_nonneg_right r2 g0
  rw [cn, ← wn'] at q1
  rw [dn, ← wn'] at q2
  refine ⟨_, rfl, tr_lt (finb_iff.2 rf), wf, Int.le_trans (Int.mul_le_mul_of_nonneg_right (by omega) (Int.le_of_lt v)) q1, Int.le_trans q2 (Int.mul_le_mul_of_nonneg_right (by omega) (Int.le_of_lt v))⟩
theorem wC_fin {x : Nat} (h : finb FloatKind.f32.format x = true) : wC x = some (tr .f32 .f64 x) := by
  unfold wC
  rw [cls_fin (k := .f32) (finb_iff.1 h)]; rfl
/-- A product's part: near what is exact. -/
def Near (o : Option Nat) (k : Int) : Prop := fitC o ∧ ∃ m, nC o = some m ∧ finb FloatKind.f32.format m = true ∧ Jn (some (tr .f32 .f64 m)) (k - 109000000) (k + 109000000)
theorem near_of {o : Option Nat} {q k : Int} (h : Jn o (q - 2) (q + 2)) (h1 : -100000000 ≤ q - k) (h2 : q - k ≤ 100000000) (k1 : -1099511627776 ≤ k) (k2 : k ≤ 1099511627776) : Near o k := by
  have h' := h
  obtain ⟨z, rfl, _⟩ := h'
  obtain ⟨f1, f2, f3⟩ := jn_narrow h (by omega) (by omega) (by omega)
  exact ⟨f1, _, rfl, f2, jn_mono f3 (by omega) (by omega)⟩
theorem mul_sm {a b : Int} (h1 : -1099511627776 ≤ a) (h2 : a ≤ 1099511627776) (h3 : -1099511627776 ≤ b) (h4 : b ≤ 1099511627776) : okf (a * b / 1099511627776) ∧ okf (a * b / 1099511627776 + 1) ∧ -1099511627776 ≤ a * b / 1099511627776 ∧ a * b / 1099511627776 ≤ 1099511627776 := by
  have h : (a * b).natAbs ≤ 1099511627776 * 1099511627776 := by
    rw [Int.natAbs_mul]
    exact Nat.mul_le_mul (by omega) (by omega)
  generalize a * b = p at *
  exact ⟨okf_of (by omega) (by omega), okf_of (by omega) (by omega), by omega, by omega⟩
theorem near_ok {i j : Nat} (hi : i < 64) (hj : j < 64) : Near (reC (pR i) (pI i) (pR j) (pI j)) (kRe ((i + j) % 64)) ∧ Near (imC (pR i) (pI i) (pR j) (pI j)) (kIm ((i + j) % 64)) := by
  have hb := near_tab ⟨i, hi⟩ ⟨j, hj⟩
  simp only [nearB, Bool.and_eq_true, decide_eq_true_eq] at hb
  obtain ⟨⟨⟨n1, n2⟩, n3⟩, n4⟩ := hb
  obtain ⟨_, ⟨a1, a2⟩, ⟨a3, a4⟩, a5, a6, a7, a8⟩ := ex_ok hi
  obtain ⟨_, ⟨b1, b2⟩, ⟨b3, b4⟩, b5, b6, b7, b8⟩ := ex_ok hj
  obtain ⟨_, _, _, c5, c6, c7, c8⟩ := ex_ok (r := (i + j) % 64) (Nat.mod_lt _ (by decide))
  have er : reC (pR i) (pI i) (pR j) (pI j) = cop .sub .f64 (cop .mul .f64 (some (tr .f32 .f64 (pR i))) (some (tr .f32 .f64 (pR j)))) (cop .mul .f64 (some (tr .f32 .f64 (pI i))) (some (tr .f32 .f64 (pI j)))) := by
    unfold reC; rw [wC_fin a1, wC_fin a2, wC_fin b1, wC_fin b2]
  have ei : imC (pR i) (pI i) (pR j) (pI j) = cop .add .f64 (cop .mul .f64 (some (tr .f32 .f64 (pR i))) (some (tr .f32 .f64 (pI j)))) (cop .mul .f64 (some (tr .f32 .f64 (pI i))) (some (tr .f32 .f64 (pR j)))) := by
    unfold imC; rw [wC_fin a1, wC_fin a2, wC_fin b1, wC_fin b2]
  rw [er, ei]
  generalize kRe i = ka at *
  generalize kIm i = kb at *
  generalize kRe j = kc at *
  generalize kIm j = kd at *
  generalize kRe ((i + j) % 64) = ke at *
  generalize kIm ((i + j) % 64) = kf at *
  obtain ⟨o1, o2, s1, s2⟩ := mul_sm a5 a6 b5 b6
  obtain ⟨o3, o4, s3, s4⟩ := mul_sm a7 a8 b7 b8
  obtain ⟨o5, o6, s5, s6⟩ := mul_sm a5 a6 b7 b8
  obtain ⟨o7, o8, s7, s8⟩ := mul_sm a7 a8 b5 b6
  have m1 := jn_mulx a3 b3 o1 o2
  have m2 := jn_mulx a4 b4 o3 o4
  have m3 := jn_mulx a3 b4 o5 o6
  have m4 := jn_mulx a4 b3 o7 o8
  clear er ei a1 a2 a3 a4 b1 b2 b3 b4 o1 o2 o3 o4 o5 o6 o7 o8
  generalize ka * kc / 1099511627776 = p1 at *
  generalize kb * kd / 1099511627776 = p2 at *
  generalize ka * kd / 1099511627776 = p3 at *
  generalize kb * kc / 1099511627776 = p4 at *
  have r := jn_sub m1 m2 (okf_of (by omega) (by omega)) (okf_of (by omega) (by omega))
  have t := jn_add m3 m4 (okf_of (by omega) (by omega)) (okf_of (by omega) (by omega))
  exact ⟨near_of (q := p1 - p2) (jn_mono r (by omega) (by omega)) n1 n2 c5 c6, near_of (q := p3 + p4) (jn_mono t (by omega) (by omega)) n3 n4 c7 c8⟩

/-! ### The turn from the angle to the number of 64ths -/
def t1W (r : Nat) : Nat := opw .mul (tr .f32 .f64 (aW r)) 4634204016564240384
def t2W (x : Nat) : Nat := opw .sub (t1W (x % 64)) (floatOfInt .f64 ((x : Int) - 128))
def t3W (x : Nat) : Nat := opw .add (t2W x) 4666723447345250304
def wI (x : Nat) : Int := (floatToIntVal .f64 (t3W x) .i64).getD 0
def turnB (x : Nat) : Bool := finb FloatKind.f32.format (aW (x % 64)) && (floatBits .mul .f64 (tr .f32 .f64 (aW (x % 64))) 4634204016564240384).isSome && (floatBits .sub .f64 (t1W (x % 64)) (floatOfInt .f64 ((x : Int) - 128))).isSome && (floatBits .add .f64 (t2W x) 4666723447345250304).isSome &&
  (floatToIntVal .f64 (t3W x) .i64).isSome && decide (0 ≤ wI x ∧ wI x ≤ 20000 ∧ (wI x - 10000) % 64 = 0 ∧ (wI x - 10000).tmod 64 = 0) && jcB (t2W x) ((wI x - 10000) * 1099511627776 - 1000000000) ((wI x - 10000) * 1099511627776 + 1000000000) && jcB (floatOfInt .f64 (wI x - 10000)) ((wI x - 10000) * 1099511627776) ((wI x - 10000) * 1099511627776)
theorem turn_tab : ∀ x : Fin 256, turnB x.1 = true := by decide +kernel
theorem turn_ok {x : Nat} (h : x < 256) : finb FloatKind.f32.format (aW (x % 64)) = true ∧ (∀ w, fa .mul .f64 (tr .f32 .f64 (aW (x % 64))) 4634204016564240384 w = t1W (x % 64)) ∧ (∀ w, fa .sub .f64 (t1W (x % 64)) (floatOfInt .f64 ((x : Int) - 128)) w = t2W x) ∧ (∀ w, fa .add .f64 (t2W x) 4666723447345250304 w = t3W x) ∧
    floatToIntVal .f64 (t3W x) .i64 = some (wI x) ∧ (0 ≤ wI x ∧ wI x ≤ 20000 ∧ (wI x - 10000) % 64 = 0 ∧ (wI x - 10000).tmod 64 = 0) ∧ Jn (some (t2W x)) ((wI x - 10000) * 1099511627776 - 1000000000) ((wI x - 10000) * 1099511627776 + 1000000000) ∧ Jn (some (floatOfInt .f64 (wI x - 10000))) ((wI x - 10000) * 1099511627776) ((wI x - 10000) * 1099511627776) := by
  have hb := turn_tab ⟨x, h⟩
  simp only [turnB, Bool.and_eq_true, decide_eq_true_eq] at hb
  obtain ⟨⟨⟨⟨⟨⟨⟨h1, h2⟩, h3⟩, h4⟩, h5⟩, h6⟩, h7⟩, h8⟩ := hb
  obtain ⟨a, ha⟩ := Option.isSome_iff_exists.1 h2
  obtain ⟨b, hb⟩ := Option.isSome_iff_exists.1 h3
  obtain ⟨c, hc⟩ := Option.isSome_iff_exists.1 h4
  obtain ⟨d, hd⟩ := Option.isSome_iff_exists.1 h5
  exact ⟨h1, fun w => by rw [fa_some ha]; exact (opw_some ha).symm, fun w => by rw [fa_some hb]; exact (opw_some hb).symm, fun w => by rw [fa_some hc]; exact (opw_some hc).symm, by unfold wI; rw [hd]; rfl, h6, jn_const h7, jn_const h8⟩
/-- The real part at quarter turns: nought or one in size. -/
theorem quarter_tab : ∀ r : Fin 4, kRe (16 * r.1) = 0 ∨ kRe (16 * r.1) = 1099511627776 ∨ kRe (16 * r.1) = -1099511627776 := by decide +kernel

end Go.Proofs.Ytjpbimfnppmbcaa
