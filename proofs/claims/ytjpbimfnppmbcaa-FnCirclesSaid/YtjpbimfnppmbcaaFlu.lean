/- Floats in the model up to the bits of a not-a-number: what each operation gives, and bounds of what it gives. -/
import Derived.Test.YtjpbimfnppmbcaaFlt
import Derived.Deep.Draws
import Derived.Laws.NewFold
import Derived.Laws.Cover2
import Derived.Laws.ComplexArith
import Derived.Laws.Bits64
import Derived.RowKit
import Derived.Laws.Externs
namespace Go.Proofs.Ytjpbimfnppmbcaa.Fl
open Ieee

/-- A float's class: its word, or none for every not-a-number. -/
def cls (k : FloatKind) (b : Nat) : Option Nat := if nan k.format b then none else some b

theorem cls_some {k : FloatKind} {b : Nat} (h : nan k.format b = false) : cls k b = some b := by unfold cls; rw [h]; rfl
theorem cls_none {k : FloatKind} {b : Nat} (h : nan k.format b = true) : cls k b = none := by unfold cls; rw [h]; rfl
theorem not_nan_of_fin {f : Format} {b : Nat} (h : fin f b) : nan f b = false := by unfold fin at h; unfold nan; rw [decide_eq_false_iff_not]; omega
theorem cls_fin {k : FloatKind} {b : Nat} (h : fin k.format b) : cls k b = some b := cls_some (not_nan_of_fin h)

theorem read_nan_iff {k : FloatKind} {x : Nat} : nan k.format x = true ↔ (k.format.read x).isNaN = true := by
  rcases kinds k.format x with h | h | h
  · rw [not_nan_of_fin h, read_fin (exp_pos k) h]; simp [Datum.isNaN]
  · have : nan k.format x = false := by unfold nan; rw [decide_eq_false_iff_not]; omega
    rw [this, read_inf (exp_pos k) h]; simp [Datum.isNaN]
  · rw [h]; obtain ⟨t, e⟩ := read_nan (exp_pos k) h; rw [e]; simp [Datum.isNaN]

theorem write_not_nan {f : Format} {d : Datum} (h : d.isNaN = false) : nan f (f.write d) = false := by
  have hi := f.infRung_lt
  cases d with
  | number s m p =>
    simp only [Format.write, nearest_eq]
    unfold nan
    rw [rung_word f s (rg_lt f m p), decide_eq_false_iff_not]
    have : rg f m p ≤ f.infRung := Nat.min_le_right _ _
    omega
  | infinity s =>
    simp only [Format.write]
    unfold nan
    rw [rung_word f s hi, decide_eq_false_iff_not]; omega
  | nan s t => simp [Datum.isNaN] at h

theorem sum_not_nan {a b r : Datum} (h : a.sum b = some r) : a.isNaN = false ∧ b.isNaN = false ∧ r.isNaN = false := by
  unfold Datum.sum at h
  split at h
  all_goals first
    | (cases h; done)
    | (split at h <;> cases h; simp [Datum.isNaN])
    | (cases h; simp [Datum.isNaN])

theorem product_not_nan {a b r : Datum} (h : a.product b = some r) : a.isNaN = false ∧ b.isNaN = false ∧ r.isNaN = false := by
  unfold Datum.product at h
  split at h
  all_goals first
    | (cases h; done)
    | (split at h <;> cases h; simp [Datum.isNaN])
    | (cases h; simp [Datum.isNaN])

theorem quotient_not_nan {n : Nat} {a b r : Datum} (h : a.quotient n b = some r) : a.isNaN = false ∧ b.isNaN = false ∧ r.isNaN = false := by
  unfold Datum.quotient at h
  split at h
  all_goals first
    | (cases h; done)
    | (split at h <;> first | (cases h; simp [Datum.isNaN]; done) | (split at h <;> cases h; simp [Datum.isNaN]))
    | (cases h; simp [Datum.isNaN])

theorem opposite_nan (a : Datum) : a.opposite.isNaN = a.isNaN := by cases a <;> rfl

theorem floatBits_nan {op : BinOp} {k : FloatKind} {x y r : Nat} (h : floatBits op k x y = some r) : nan k.format x = false ∧ nan k.format y = false ∧ nan k.format r = false := by
  have conv : ∀ {z : Nat}, (k.format.read z).isNaN = false → nan k.format z = false := by
    intro z hz
    cases hb : nan k.format z
    · rfl
    · rw [read_nan_iff.1 hb] at hz; cases hz
  unfold floatBits at h
  cases op <;> simp only at h <;> first | (cases h; done) | skip
  all_goals first | unfold Format.add at h | unfold Format.sub at h | unfold Format.mul at h | unfold Format.div at h
  all_goals
    rw [Option.map_eq_some_iff] at h
    obtain ⟨d, hd, rfl⟩ := h
  · have := sum_not_nan hd; exact ⟨conv this.1, conv this.2.1, write_not_nan this.2.2⟩
  · have := sum_not_nan hd; rw [opposite_nan] at this; exact ⟨conv this.1, conv this.2.1, write_not_nan this.2.2⟩
  · have := product_not_nan hd; exact ⟨conv this.1, conv this.2.1, write_not_nan this.2.2⟩
  · have := quotient_not_nan hd; exact ⟨conv this.1, conv this.2.1, write_not_nan this.2.2⟩

theorem nan_cut (q : Question) (t : Nat) (k : FloatKind) (h : (∃ x y, q = .nanBits k x y) ∨ ∃ b, q = .nanConv k b) : nan k.format (q.cut t) = true := by
  have h32 : ∀ t : Nat, nan single ((t % 2) * 2 ^ 31 + 0x7f800000 + 1 + (t / 2) % (2 ^ 23 - 1)) = true := by
    intro t
    unfold nan rung
    rw [decide_eq_true_eq]
    have e1 : single.signWeight = 2147483648 := rfl
    have e2 : single.infRung = 2139095040 := rfl
    rw [e1, e2]
    have hq : t / 2 % (2 ^ 23 - 1) < 8388607 := Nat.mod_lt _ (by decide)
    generalize t / 2 % (2 ^ 23 - 1) = q at hq
    rcases (by omega : t % 2 = 0 ∨ t % 2 = 1) with h | h <;> rw [h] <;> omega
  have h64 : ∀ t : Nat, nan double ((t % 2) * 2 ^ 63 + 0x7ff0000000000000 + 1 + (t / 2) % (2 ^ 52 - 1)) = true := by
    intro t
    unfold nan rung
    rw [decide_eq_true_eq]
    have e1 : double.signWeight = 9223372036854775808 := rfl
    have e2 : double.infRung = 9218868437227405312 := rfl
    rw [e1, e2]
    have hq : t / 2 % (2 ^ 52 - 1) < 4503599627370495 := Nat.mod_lt _ (by decide)
    generalize t / 2 % (2 ^ 52 - 1) = q at hq
    rcases (by omega : t % 2 = 0 ∨ t % 2 = 1) with h | h <;> rw [h] <;> omega
  rcases h with ⟨x, y, rfl⟩ | ⟨b, rfl⟩ <;> cases k <;> first | exact h32 t | exact h64 t

/-- What an operation on two floats gives in a world: the rounded number, or the not-a-number that is drawn. -/
def fa (op : BinOp) (k : FloatKind) (x y : Nat) (w : World) : Nat :=
  match floatBits op k x y with
  | some r => r
  | none => (Question.nanBits k x y).cut (w.tape w.drawn (.nanBits k x y))
/-- How many answers it draws. -/
def fd (op : BinOp) (k : FloatKind) (x y : Nat) : Nat := if (floatBits op k x y).isSome then 0 else 1

/-- The operation on classes. -/
def cop (op : BinOp) (k : FloatKind) (a b : Option Nat) : Option Nat := a.bind fun x => b.bind fun y => floatBits op k x y

theorem cls_fa (op : BinOp) (k : FloatKind) (x y : Nat) (w : World) : cls k (fa op k x y w) = cop op k (cls k x) (cls k y) := by
  unfold fa
  cases h : floatBits op k x y with
  | some r =>
    have := floatBits_nan h
    simp only [cls_some this.1, cls_some this.2.1, cls_some this.2.2, cop, Option.bind_some, h]
  | none =>
    simp only
    rw [cls_none (nan_cut _ _ k (.inl ⟨x, y, rfl⟩))]
    unfold cop cls
    split
    · rfl
    · split
      · rfl
      · simp [h]

section
variable {P : Program} (w : World)
theorem run_floatArith_eq (op : BinOp) (hop : op = .add ∨ op = .sub ∨ op = .mul ∨ op = .quo) (k : FloatKind) (x y : Nat) :
    (Op.floatArith op k x y).run P w = .ok (.float k (fa op k x y w)) (w.drewN (fd op k x y)) := by
  unfold fa fd
  cases h : floatBits op k x y with
  | some r =>
    rw [run_floatArith w h]; rfl
  | none =>
    unfold floatBits at h
    rcases hop with rfl | rfl | rfl | rfl <;> simp only at h <;> simp [Op.floatArith, h, Question.forced, World.drew_is_drewN]

theorem run_bin_eq (op : BinOp) (hop : op = .add ∨ op = .sub ∨ op = .mul ∨ op = .quo) (t : TypeId) (k : FloatKind) (x y : Nat) :
    (binOp op t (.float k x) (.float k y)).run P w = .ok (.float k (fa op k x y w)) (w.drewN (fd op k x y)) := by
  rw [← run_floatArith_eq (P := P) w op hop k x y]
  rcases hop with rfl | rfl | rfl | rfl <;> simp [binOp]

@[go_sem high] theorem run_fadd (t : TypeId) (k : FloatKind) (x y : Nat) : (binOp .add t (.float k x) (.float k y)).run P w = .ok (.float k (fa .add k x y w)) (w.drewN (fd .add k x y)) := run_bin_eq w _ (by simp) t k x y
@[go_sem high] theorem run_fsub (t : TypeId) (k : FloatKind) (x y : Nat) : (binOp .sub t (.float k x) (.float k y)).run P w = .ok (.float k (fa .sub k x y w)) (w.drewN (fd .sub k x y)) := run_bin_eq w _ (by simp) t k x y
@[go_sem high] theorem run_fmul (t : TypeId) (k : FloatKind) (x y : Nat) : (binOp .mul t (.float k x) (.float k y)).run P w = .ok (.float k (fa .mul k x y w)) (w.drewN (fd .mul k x y)) := run_bin_eq w _ (by simp) t k x y
@[go_sem high] theorem run_fquo (t : TypeId) (k : FloatKind) (x y : Nat) : (binOp .quo t (.float k x) (.float k y)).run P w = .ok (.float k (fa .quo k x y w)) (w.drewN (fd .quo k x y)) := run_bin_eq w _ (by simp) t k x y
end

/-- A conversion between the kinds. -/
def cvq (s : FloatKind) (b : Nat) (d : FloatKind) : Question := if (s.decode b).isNaN then .nanConv d b else .floatToFloat b
def cv (s : FloatKind) (b : Nat) (d : FloatKind) (w : World) : Nat :=
  match floatToFloatBits s b d with
  | some r => r
  | none => (cvq s b d).cut (w.tape w.drawn (cvq s b d))
def cd (s : FloatKind) (b : Nat) (d : FloatKind) : Nat := if (floatToFloatBits s b d).isSome then 0 else 1

section
variable {P : Program} (w : World)
theorem run_f2f (s : FloatKind) (b : Nat) (d : FloatKind) : (Conv.floatToFloat s b d).run P w = .ok (.float d (cv s b d w)) (w.drewN (cd s b d)) := by
  unfold cv cd
  cases h : floatToFloatBits s b d with
  | some r => rw [run_floatToFloat w h]; rfl
  | none =>
    unfold floatToFloatBits at h
    split at h
    · cases h
    · rename_i ne
      split at h
      · rename_i sg t he
        have : (s.decode b).isNaN = true := by rw [he]; rfl
        simp [Conv.floatToFloat, ne, he, cvq, Datum.isNaN, Question.forced, World.drew_is_drewN]
      · cases h
      · rename_i sg m e he
        split at h
        · rename_i ho
          simp [Conv.floatToFloat, ne, he, ho, cvq, Datum.isNaN, Question.forced, World.drew_is_drewN]
        · cases h

@[go_sem high] theorem run_cv (src dst : TypeId) (s d : FloatKind) (b : Nat) (hs : (P.underlying src).isSome = true) (hd : P.underlying dst = some (.float d)) :
    (convert src dst (.float s b)).run P w = .ok (.float d (cv s b d w)) (w.drewN (cd s b d)) := by
  obtain ⟨u, hs'⟩ := Option.isSome_iff_exists.1 hs
  rw [← run_f2f (P := P) w s b d]
  cases u <;> simp [convert, run_underlying hs', run_underlying hd]
end

theorem cv_same (k : FloatKind) (b : Nat) (w : World) : cv k b k w = b := by unfold cv floatToFloatBits; rw [if_pos rfl]
theorem cd_same (k : FloatKind) (b : Nat) : cd k b k = 0 := by unfold cd floatToFloatBits; rw [if_pos rfl]; rfl
attribute [go_sem] cv_same cd_same World.drewN_zero

/-- The same number in the other kind. -/
def tr (s d : FloatKind) (b : Nat) : Nat := d.format.write (s.format.read b)

/-- The number does not pass the other kind's greatest. -/
def fits (s d : FloatKind) (b : Nat) : Prop := fin s.format b → fin d.format (tr s d b)

theorem fin_iff_inf {k : FloatKind} {x : Nat} (h : nan k.format x = false) : (k.format.read x).isInfinity = false ↔ fin k.format x := by
  rcases kinds k.format x with h' | h' | h'
  · rw [read_fin (exp_pos k) h']; simp [Datum.isInfinity, h']
  · rw [read_inf (exp_pos k) h']; simp [Datum.isInfinity, fin, h']
  · rw [h] at h'; cases h'

theorem cls_cv {s d : FloatKind} {b : Nat} (w : World) (hne : s ≠ d) (h : fits s d b) : cls d (cv s b d w) = (cls s b).map (tr s d) := by
  have he := exp_pos s
  unfold cv
  rcases kinds s.format b with hf | hi | hn
  · have hr := read_fin he hf
    have e : floatToFloatBits s b d = some (tr s d b) := by
      unfold floatToFloatBits
      rw [if_neg hne]
      have hd : s.decode b = .number (ng s.format b) (mg s.format (rung s.format b)) (pl s.format (rung s.format b)) := hr
      rw [hd]
      simp only
      have ht : d.encode (.number (ng s.format b) (mg s.format (rung s.format b)) (pl s.format (rung s.format b))) = tr s d b := by
        unfold tr; rw [hr]; rfl
      rw [ht]
      have hfin := h hf
      have := (fin_iff_inf (not_nan_of_fin hfin)).2 hfin
      rw [if_neg (by rw [show d.decode (tr s d b) = d.format.read (tr s d b) from rfl, this]; simp)]
    rw [e]
    simp only
    rw [cls_fin hf, cls_fin (h hf)]; rfl
  · have hr := read_inf he hi
    have hnn : nan s.format b = false := by unfold nan; rw [decide_eq_false_iff_not]; omega
    have e : floatToFloatBits s b d = some (tr s d b) := by
      unfold floatToFloatBits
      rw [if_neg hne]
      have hd : s.decode b = .infinity (ng s.format b) := hr
      rw [hd]
      simp only
      unfold tr; rw [hr]; rfl
    rw [e]
    simp only
    rw [cls_some hnn]
    have : nan d.format (tr s d b) = false := by unfold tr; rw [hr]; exact write_not_nan rfl
    rw [cls_some this]; rfl
  · obtain ⟨t, hr⟩ := read_nan he hn
    have hd : s.decode b = .nan (ng s.format b) t := hr
    have e : floatToFloatBits s b d = none := by
      unfold floatToFloatBits
      rw [if_neg hne, hd]
    rw [e]
    simp only
    have hq : cvq s b d = .nanConv d b := by unfold cvq; rw [hd]; rfl
    rw [hq, cls_none hn, cls_none (nan_cut _ _ d (.inr ⟨b, rfl⟩))]; rfl

theorem fits_wide (b : Nat) : fits .f32 .f64 b := fun h => (widen h).1

theorem cls_widen (b : Nat) (w : World) : cls .f64 (cv .f32 b .f64 w) = (cls .f32 b).map (tr .f32 .f64) := cls_cv w (by decide) (fits_wide b)

/-- The whole units in a number. -/
def tq (f : Format) (x : Nat) : Nat := (N f x).natAbs / 2 ^ (-f.leastPlace).toNat
/-- Is something left over? -/
def lo (f : Format) (x : Nat) : Bool := (N f x).natAbs % 2 ^ (-f.leastPlace).toNat != 0

theorem cut_zero (neg : Bool) (n drop : Nat) : Toward.zero.cut neg n drop = n / 2 ^ drop := by
  have key : Toward.zero.cut neg n drop = n / (1 <<< min drop (n.log2 + 2)) := by simp [Toward.cut]
  rw [key, shl_one]
  rcases Nat.le_total drop (n.log2 + 2) with h | h
  · rw [Nat.min_eq_left h]
  · rw [Nat.min_eq_right h]
    have hn : n < 2 ^ (n.log2 + 1) := Nat.lt_log2_self
    have h1 : 2 ^ (n.log2 + 2) = 2 * 2 ^ (n.log2 + 1) := by rw [Nat.pow_succ 2 (n.log2 + 1), Nat.mul_comm]
    have h2 : 2 ^ (n.log2 + 2) ≤ 2 ^ drop := Nat.pow_le_pow_right (by omega) h
    rw [Nat.div_eq_of_lt (by omega), Nat.div_eq_of_lt (by omega)]

theorem cut_down (neg : Bool) (n drop : Nat) : Toward.down.cut neg n drop = n / 2 ^ drop + (neg && n % 2 ^ drop != 0).toNat := by
  have key : Toward.down.cut neg n drop = n / (1 <<< min drop (n.log2 + 2)) + (neg && n % (1 <<< min drop (n.log2 + 2)) != 0).toNat := by simp [Toward.cut]
  rw [key, shl_one]
  rcases Nat.le_total drop (n.log2 + 2) with h | h
  · rw [Nat.min_eq_left h]
  · rw [Nat.min_eq_right h]
    have hn : n < 2 ^ (n.log2 + 1) := Nat.lt_log2_self
    have h1 : 2 ^ (n.log2 + 2) = 2 * 2 ^ (n.log2 + 1) := by rw [Nat.pow_succ 2 (n.log2 + 1), Nat.mul_comm]
    have h2 : 2 ^ (n.log2 + 2) ≤ 2 ^ drop := Nat.pow_le_pow_right (by omega) h
    have q1 : n / 2 ^ (n.log2 + 2) = 0 := Nat.div_eq_of_lt (by omega)
    have q2 : n / 2 ^ drop = 0 := Nat.div_eq_of_lt (by omega)
    have q3 : n % 2 ^ (n.log2 + 2) = n := Nat.mod_eq_of_lt (by omega)
    have q4 : n % 2 ^ drop = n := Nat.mod_eq_of_lt (by omega)
    rw [q1, q2, q3, q4]

theorem whole_of {f : Format} (hl : f.leastPlace ≤ 0) (x : Nat) :
    (mg f (rung f x) <<< (pl f (rung f x)).toNat) / 2 ^ (-(pl f (rung f x))).toNat = tq f x ∧
    ((mg f (rung f x) <<< (pl f (rung f x)).toNat) % 2 ^ (-(pl f (rung f x))).toNat != 0) = lo f x := by
  have ea : (N f x).natAbs = num f (rung f x) := by have := num_abs f x; omega
  unfold tq lo
  rw [ea]
  unfold num
  have hp := pl_ge f (rung f x)
  rw [Nat.shiftLeft_eq]
  generalize mg f (rung f x) = m
  generalize pl f (rung f x) = p at *
  rcases Int.le_total 0 p with h | h
  · rw [show (-p).toNat = 0 by omega, show (p - f.leastPlace).toNat = p.toNat + (-f.leastPlace).toNat by omega, Nat.pow_add, ← Nat.mul_assoc]
    rw [Nat.pow_zero, Nat.div_one, Nat.mod_one, Nat.mul_div_cancel _ (Nat.two_pow_pos _), Nat.mul_mod_left]
    exact ⟨rfl, rfl⟩
  · rw [show p.toNat = 0 by omega, Nat.pow_zero, Nat.mul_one]
    have e : (-f.leastPlace).toNat = (-p).toNat + (p - f.leastPlace).toNat := by omega
    rw [e, Nat.pow_add, Nat.mul_div_mul_right _ _ (Nat.two_pow_pos _), Nat.mul_mod_mul_right]
    refine ⟨rfl, ?_⟩
    have hpos := Nat.two_pow_pos (p - f.leastPlace).toNat
    generalize m % 2 ^ (-p).toNat = a
    generalize 2 ^ (p - f.leastPlace).toNat = b at *
    by_cases ha : a = 0
    · subst ha; simp
    · have : a * b ≠ 0 := Nat.mul_ne_zero ha (by omega)
      have e1 : (a != 0) = true := by simpa using ha
      have e2 : (a * b != 0) = true := by simpa using this
      rw [e1, e2]

theorem toInt_fin {f : Format} (he : 0 < f.exponentBits) (hl : f.leastPlace ≤ 0) {x : Nat} (hx : fin f x) :
    (f.read x).toInt .zero = some (if ng f x then -(tq f x : Int) else tq f x) := by
  rw [read_fin he hx]
  simp only [Datum.toInt, Datum.integral, cut_zero, (whole_of hl x).1, signed, Nat.shiftLeft_zero]

theorem trunc_fin {f : Format} (he : 0 < f.exponentBits) (hl : f.leastPlace ≤ 0) {x : Nat} (hx : fin f x) :
    f.write ((f.read x).integral .zero) = f.word (ng f x) (rg f (tq f x) 0) := by
  rw [read_fin he hx]
  simp only [Datum.integral, cut_zero, (whole_of hl x).1, Format.write, nearest_eq]

theorem floor_fin {f : Format} (he : 0 < f.exponentBits) (hl : f.leastPlace ≤ 0) {x : Nat} (hx : fin f x) :
    f.write ((f.read x).integral .down) = f.word (ng f x) (rg f (tq f x + (ng f x && lo f x).toNat) 0) := by
  rw [read_fin he hx]
  simp only [Datum.integral, cut_down, (whole_of hl x).1, (whole_of hl x).2, Format.write, nearest_eq]

theorem nearest_int (k : FloatKind) (n : Int) : k.nearest n = k.format.word (decide (n < 0)) (rg k.format n.natAbs 0) := by
  unfold FloatKind.nearest FloatKind.encode
  simp only [Format.write, nearest_eq]

/-- The integers up to 2^53 are doubles. -/
theorem int_fin {q : Nat} (h : q ≤ 2 ^ 53) (s : Bool) : fin double (double.word s (rg double q 0)) ∧ N double (double.word s (rg double q 0)) = (if s then -(q : Int) else q) * U double ∧ ng double (double.word s (rg double q 0)) = s := by
  have hlt := rg_lt double q 0
  have hb : rg0 double q 0 ≤ rg0 double (2 ^ 53) 0 := rg0_mono _ _ h
  have hfin : rg0 double q 0 < double.infRung := Nat.lt_of_le_of_lt hb (by decide +kernel)
  have hrg : rg double q 0 = rg0 double q 0 := by unfold rg; omega
  have hlt0 : rg0 double q 0 < double.signWeight := Nat.lt_trans hfin double.infRung_lt
  have hn : num double (rg0 double q 0) = q * 2 ^ (-double.leastPlace).toNat := by
    rcases Nat.lt_or_ge q (2 ^ 53) with a | a
    · have := rg0_rep (f := double) (p := 0) a (by decide)
      rw [this, show (0 - double.leastPlace) = -double.leastPlace by omega]
    · have e : q = 2 ^ 52 * 2 ^ 1 := by omega
      have e1 := rg0_scale double (2 ^ 52) 1 1
      have := rg0_rep (f := double) (m := 2 ^ 52) (p := 1) (by decide) (by decide)
      rw [e, show (0 : Int) = 1 - ((1 : Nat) : Int) by decide, e1, this]
      have : (1 - double.leastPlace).toNat = 1 + (-double.leastPlace).toNat := by decide
      rw [this, Nat.pow_add, Nat.mul_assoc]
  rw [hrg]
  refine ⟨?_, ?_, ng_word _ _ hlt0⟩
  · unfold fin; rw [rung_word _ _ hlt0]; exact hfin
  · rw [N_word _ _ hlt0, hn, U_nat]
    cases s
    · simp
    · simp [Int.neg_mul]

theorem tq_spec (f : Format) (x : Nat) : (tq f x : Int) * U f ≤ (N f x).natAbs ∧ ((N f x).natAbs : Int) < ((tq f x : Int) + 1) * U f := by
  unfold tq
  rw [U_nat]
  have hpos := Nat.two_pow_pos (-f.leastPlace).toNat
  generalize 2 ^ (-f.leastPlace).toNat = u at *
  generalize (N f x).natAbs = a
  have h1 := Nat.div_mul_le_self a u
  have h2 := Nat.lt_div_mul_add (a := a) hpos
  constructor
  · exact_mod_cast h1
  · have : a < (a / u + 1) * u := by rw [Nat.add_mul, Nat.one_mul]; omega
    exact_mod_cast this

theorem order_nan {k : FloatKind} {x y : Nat} (h : nan k.format x = true ∨ nan k.format y = true) : k.format.order x y = none := by
  unfold Format.order
  rcases h with h | h
  · obtain ⟨t, e⟩ := read_nan (exp_pos k) h; rw [e]; simp [Datum.order]
  · obtain ⟨t, e⟩ := read_nan (exp_pos k) h; rw [e]; cases k.format.read x <;> simp [Datum.order]

/-- How two classes stand to each other. -/
def cord (k : FloatKind) (a b : Option Nat) : Option Ordering := a.bind fun x => b.bind fun y => k.format.order x y

theorem order_cls (k : FloatKind) (x y : Nat) : k.format.order x y = cord k (cls k x) (cls k y) := by
  unfold cord cls
  cases hx : nan k.format x
  · cases hy : nan k.format y
    · simp
    · simp [order_nan (.inr hy)]
  · simp [order_nan (.inl hx)]

theorem cls_order {k : FloatKind} {x y x' y' : Nat} (hx : cls k x = cls k x') (hy : cls k y = cls k y') : k.format.order x y = k.format.order x' y' := by
  rw [order_cls, order_cls, hx, hy]

/-- Is it finite? -/
def finb (f : Format) (x : Nat) : Bool := decide (rung f x < f.infRung)
theorem finb_iff {f : Format} {x : Nat} : finb f x = true ↔ fin f x := by unfold finb fin; rw [decide_eq_true_eq]
theorem finb_true {f : Format} {x : Nat} (h : fin f x) : finb f x = true := finb_iff.2 h
theorem finb_false {f : Format} {x : Nat} (h : ¬ fin f x) : finb f x = false := by
  cases hb : finb f x
  · rfl
  · exact absurd (finb_iff.1 hb) h

theorem zero_fin (k : FloatKind) : fin k.format 0 := by cases k <;> (unfold fin; decide)
theorem N_zero (k : FloatKind) : N k.format 0 = 0 := by cases k <;> decide +kernel

/-- What is taken from itself is nought where it is finite, and there alone. -/
theorem self_sub (k : FloatKind) (b : Nat) (w : World) : (k.format.order (fa .sub k b b w) 0 == some .eq) = finb k.format b := by
  have he := exp_pos k
  rcases kinds k.format b with h | h | h
  · obtain ⟨z, hz, _, hf, h1, h2⟩ := sub_bd he h h (zero_fin k) (zero_fin k) (by rw [N_zero]; omega) (by rw [N_zero]; omega)
    rw [N_zero] at h1 h2
    have e : fa .sub k b b w = z := by unfold fa floatBits; simp only [hz]
    rw [e, order_fin he hf (zero_fin k), N_zero, show N k.format z = 0 by omega, finb_true h]
    rfl
  · have e : floatBits .sub k b b = none := by
      unfold floatBits Format.sub
      simp only
      rw [read_inf he h]
      cases ng k.format b <;> simp [Datum.sum, Datum.opposite]
    have hn : nan k.format (fa .sub k b b w) = true := by
      unfold fa; rw [e]; exact nan_cut _ _ k (.inl ⟨b, b, rfl⟩)
    rw [order_nan (.inl hn)]
    have : ¬ fin k.format b := by unfold fin; omega
    rw [finb_false this]; rfl
  · have hc : cls k (fa .sub k b b w) = none := by rw [cls_fa, cls_none h]; rfl
    have hn : nan k.format (fa .sub k b b w) = true := by
      cases hb : nan k.format (fa .sub k b b w)
      · rw [cls_some hb] at hc; cases hc
      · rfl
    rw [order_nan (.inl hn)]
    have : ¬ fin k.format b := by unfold nan at h; rw [decide_eq_true_eq] at h; unfold fin; omega
    rw [finb_false this]; rfl

/-- x != x: a not-a-number. -/
theorem ne_self (k : FloatKind) (b : Nat) : (k.format.order b b != some .eq) = nan k.format b := by
  have he := exp_pos k
  rcases kinds k.format b with h | h | h
  · rw [order_fin he h h, not_nan_of_fin h]; simp
  · have : nan k.format b = false := by unfold nan; rw [decide_eq_false_iff_not]; omega
    rw [this]
    unfold Format.order
    rw [read_inf he h]
    simp [Datum.order]
  · rw [order_nan (.inl h), h]; rfl

theorem eq_self (k : FloatKind) (b : Nat) : (k.format.order b b == some .eq) = !nan k.format b := by
  have := ne_self k b
  rw [bne] at this
  rw [← this]; simp

def qp : Nat := 1072
theorem mmm (a b c d : Int) : a * b * (c * d) = a * c * (b * d) := by simp only [Int.mul_assoc, Int.mul_left_comm]

/-- A quarter. -/
def V : Int := 2 ^ qp

theorem U_V : U double = 4 * V := by
  unfold U V
  rw [show (-double.leastPlace).toNat = qp + 2 by decide, Int.pow_add, Int.mul_comm]
  rfl

theorem V_pos : 0 < V := Int.pow_pos (by decide)

/-- A number of quarters. -/
def qw (l : Int) : Nat := double.word (decide (l < 0)) (rg double l.natAbs (-2))

theorem qw_spec {l : Int} (h1 : -9007199254740992 ≤ l) (h2 : l ≤ 9007199254740992) : fin double (qw l) ∧ N double (qw l) = l * V := by
  have hq : l.natAbs ≤ 2 ^ 53 := by omega
  unfold qw
  generalize hn : l.natAbs = q at *
  have hlt := rg_lt double q (-2)
  have hb : rg0 double q (-2) ≤ rg0 double (2 ^ 53) (-2) := rg0_mono _ _ hq
  have hfin : rg0 double q (-2) < double.infRung := Nat.lt_of_le_of_lt hb (by decide +kernel)
  have hrg : rg double q (-2) = rg0 double q (-2) := by unfold rg; omega
  have hlt0 : rg0 double q (-2) < double.signWeight := Nat.lt_trans hfin double.infRung_lt
  have hnum : num double (rg0 double q (-2)) = q * 2 ^ qp := by
    rcases Nat.lt_or_ge q (2 ^ 53) with a | a
    · have := rg0_rep (f := double) (p := -2) a (by decide)
      rw [this, show (-2 - double.leastPlace).toNat = qp by decide]
    · have e : q = 2 ^ 52 * 2 ^ 1 := by omega
      have e1 := rg0_scale double (2 ^ 52) 1 (-1)
      have := rg0_rep (f := double) (m := 2 ^ 52) (p := -1) (by decide) (by decide)
      rw [e, show (-2 : Int) = -1 - ((1 : Nat) : Int) by decide, e1, this]
      have : (-1 - double.leastPlace).toNat = 1 + qp := by decide
      rw [this, Nat.pow_add, Nat.mul_assoc]
  rw [hrg]
  refine ⟨?_, ?_⟩
  · unfold fin; rw [rung_word _ _ hlt0]; exact hfin
  · rw [N_word _ _ hlt0, hnum]
    have hv : V = ((2 ^ qp : Nat) : Int) := by unfold V; simp
    rw [hv]
    rcases Int.lt_or_le l 0 with c | c
    · have e : l = -(q : Int) := by omega
      rw [e, if_pos (by simp; omega), Int.neg_mul]; simp
    · have e : l = (q : Int) := by omega
      rw [e, if_neg (by simp)]; simp

/-- A class that is a number between l and h quarters. -/
def In (c : Option Nat) (l h : Int) : Prop := ∃ z, c = some z ∧ z < 2 ^ 64 ∧ fin double z ∧ l * V ≤ N double z ∧ N double z ≤ h * V

/-- A bound that a double holds. -/
def ok (l : Int) : Prop := -9007199254740992 ≤ l ∧ l ≤ 9007199254740992

theorem in_mono {c : Option Nat} {l h l' h' : Int} (hi : In c l h) (h1 : l' ≤ l) (h2 : h ≤ h') : In c l' h' := by
  obtain ⟨z, e, hz, hf, a, b⟩ := hi
  have v := V_pos
  exact ⟨z, e, hz, hf, Int.le_trans (Int.mul_le_mul_of_nonneg_right h1 (by omega)) a, Int.le_trans b (Int.mul_le_mul_of_nonneg_right h2 (by omega))⟩

theorem in_add {a b : Option Nat} {l1 h1 l2 h2 : Int} (ha : In a l1 h1) (hb : In b l2 h2) (ol : ok (l1 + l2)) (oh : ok (h1 + h2)) : In (cop .add .f64 a b) (l1 + l2) (h1 + h2) := by
  obtain ⟨x, rfl, _, hx, x1, x2⟩ := ha
  obtain ⟨y, rfl, _, hy, y1, y2⟩ := hb
  obtain ⟨cf, cn⟩ := qw_spec ol.1 ol.2
  obtain ⟨df, dn⟩ := qw_spec oh.1 oh.2
  obtain ⟨z, hz, hlt, hf, z1, z2⟩ := add_bd (f := double) (by decide) hx hy cf df (by rw [cn, Int.add_mul]; omega) (by rw [dn, Int.add_mul]; omega)
  exact ⟨z, hz, hlt, hf, by omega, by omega⟩

theorem in_sub {a b : Option Nat} {l1 h1 l2 h2 : Int} (ha : In a l1 h1) (hb : In b l2 h2) (ol : ok (l1 - h2)) (oh : ok (h1 - l2)) : In (cop .sub .f64 a b) (l1 - h2) (h1 - l2) := by
  obtain ⟨x, rfl, _, hx, x1, x2⟩ := ha
  obtain ⟨y, rfl, _, hy, y1, y2⟩ := hb
  obtain ⟨cf, cn⟩ := qw_spec ol.1 ol.2
  obtain ⟨df, dn⟩ := qw_spec oh.1 oh.2
  obtain ⟨z, hz, hlt, hf, z1, z2⟩ := sub_bd (f := double) (by decide) hx hy cf df (by rw [cn, Int.sub_mul]; omega) (by rw [dn, Int.sub_mul]; omega)
  exact ⟨z, hz, hlt, hf, by omega, by omega⟩

theorem prod_le {x y h k : Int} (hx0 : 0 ≤ x) (hx : x ≤ h) (hy : y ≤ k) (hk : 0 ≤ k) : x * y ≤ h * k := by
  have a : x * y ≤ x * k := Int.mul_le_mul_of_nonneg_left hy hx0
  have b : x * k ≤ h * k := Int.mul_le_mul_of_nonneg_right hx hk
  omega

/-- A product of a number not below nought and another one. -/
theorem in_mul {a b : Option Nat} {h1 l2 h2 c d : Int} (ha : In a 0 h1) (hb : In b l2 h2) (hl : l2 ≤ 0) (hh : 0 ≤ h2) (hc : c * 4 ≤ h1 * l2) (hd : h1 * h2 ≤ d * 4) (oc : ok c) (od : ok d) :
    In (cop .mul .f64 a b) c d := by
  obtain ⟨x, rfl, _, hx, x1, x2⟩ := ha
  obtain ⟨y, rfl, _, hy, y1, y2⟩ := hb
  obtain ⟨cf, cn⟩ := qw_spec oc.1 oc.2
  obtain ⟨df, dn⟩ := qw_spec od.1 od.2
  have v := V_pos
  have vv : 0 < V * V := Int.mul_pos v v
  have k1 : N double x * N double y ≤ (h1 * V) * (h2 * V) := prod_le (by omega) x2 y2 (Int.mul_nonneg hh (by omega))
  have k2 : N double x * (-(N double y)) ≤ (h1 * V) * (-(l2 * V)) := prod_le (by omega) x2 (by omega) (by have := Int.mul_nonneg (show 0 ≤ -l2 by omega) (show 0 ≤ V by omega); rw [Int.neg_mul] at this; exact this)
  rw [Int.mul_neg, Int.mul_neg] at k2
  have e1 : (h1 * V) * (h2 * V) = (h1 * h2) * (V * V) := by rw [mmm]
  have e2 : (h1 * V) * (l2 * V) = (h1 * l2) * (V * V) := by rw [mmm]
  rw [e1] at k1
  rw [e2] at k2
  have k3 : (h1 * h2) * (V * V) ≤ (d * 4) * (V * V) := Int.mul_le_mul_of_nonneg_right hd (by omega)
  have k4 : (c * 4) * (V * V) ≤ (h1 * l2) * (V * V) := Int.mul_le_mul_of_nonneg_right hc (by omega)
  have e3 : ∀ c : Int, c * V * U double = (c * 4) * (V * V) := by intro c; rw [U_V]; simp only [Int.mul_assoc, Int.mul_left_comm]
  obtain ⟨z, hz, hlt, hf, z1, z2⟩ := mul_bd (f := double) (by decide) (by decide) hx hy cf df (by rw [cn, e3]; omega) (by rw [dn, e3]; omega)
  exact ⟨z, hz, hlt, hf, by omega, by omega⟩

/-- A square. -/
theorem in_sq {a : Option Nat} {h d : Int} (ha : In a (-h) h) (hd : h * h ≤ d * 4) (od : ok d) (hd0 : 0 ≤ d) : In (cop .mul .f64 a a) 0 d := by
  obtain ⟨x, rfl, _, hx, x1, x2⟩ := ha
  obtain ⟨cf, cn⟩ := qw_spec (l := 0) (by omega) (by omega)
  obtain ⟨df, dn⟩ := qw_spec od.1 od.2
  have v := V_pos
  have k : N double x * N double x ≤ (h * V) * (h * V) := by
    rcases Int.le_total 0 (N double x) with s | s
    · exact prod_le s x2 x2 (by omega)
    · have := prod_le (x := -N double x) (y := -N double x) (h := h * V) (k := h * V) (by omega) (by rw [Int.neg_mul] at x1; omega) (by rw [Int.neg_mul] at x1; omega) (by rw [Int.neg_mul] at x1; omega)
      rwa [Int.neg_mul_neg] at this
  rw [mmm] at k
  have k3 : (h * h) * (V * V) ≤ (d * 4) * (V * V) := Int.mul_le_mul_of_nonneg_right hd (Int.le_of_lt (Int.mul_pos v v))
  have e3 : ∀ c : Int, c * V * U double = (c * 4) * (V * V) := by intro c; rw [U_V]; simp only [Int.mul_assoc, Int.mul_left_comm]
  have k0 : 0 ≤ N double x * N double x := by
    rcases Int.le_total 0 (N double x) with s | s
    · exact Int.mul_nonneg s s
    · have := Int.mul_nonneg (show 0 ≤ -N double x by omega) (show 0 ≤ -N double x by omega); rwa [Int.neg_mul_neg] at this
  obtain ⟨z, hz, hlt, hf, z1, z2⟩ := mul_bd (f := double) (by decide) (by decide) hx hx cf df (by rw [cn]; simpa using k0) (by rw [dn, e3]; omega)
  have _ := hd0
  exact ⟨z, hz, hlt, hf, by omega, by omega⟩

/-- A quotient by a number of at least m quarters. -/
theorem in_quo {a b : Option Nat} {l1 h1 m h2 c d : Int} (ha : In a l1 h1) (hb : In b m h2) (hm : 0 < m) (hc0 : c ≤ 0) (hd0 : 0 ≤ d) (hc : c * m ≤ l1 * 4) (hd : h1 * 4 ≤ d * m) (oc : ok c) (od : ok d) :
    In (cop .quo .f64 a b) c d := by
  obtain ⟨x, rfl, _, hx, x1, x2⟩ := ha
  obtain ⟨y, rfl, _, hy, y1, y2⟩ := hb
  obtain ⟨cf, cn⟩ := qw_spec oc.1 oc.2
  obtain ⟨df, dn⟩ := qw_spec od.1 od.2
  have v := V_pos
  have vv := Int.mul_pos v v
  have hy0 : 0 < N double y := Int.lt_of_lt_of_le (Int.mul_pos hm v) y1
  have k1 : (d * V) * (m * V) ≤ (d * V) * N double y := Int.mul_le_mul_of_nonneg_left y1 (Int.mul_nonneg hd0 (by omega))
  have k2 : (-c * V) * (m * V) ≤ (-c * V) * N double y := Int.mul_le_mul_of_nonneg_left y1 (Int.mul_nonneg (by omega) (by omega))
  rw [mmm] at k1 k2
  have k3 : (h1 * 4) * (V * V) ≤ (d * m) * (V * V) := Int.mul_le_mul_of_nonneg_right hd (by omega)
  have k4 : (c * m) * (V * V) ≤ (l1 * 4) * (V * V) := Int.mul_le_mul_of_nonneg_right hc (by omega)
  have e3 : ∀ c : Int, c * V * U double = (c * 4) * (V * V) := by intro c; rw [U_V]; simp only [Int.mul_assoc, Int.mul_left_comm]
  have u := U_pos double
  have k5 : N double x * U double ≤ h1 * V * U double := Int.mul_le_mul_of_nonneg_right x2 (by omega)
  have k6 : l1 * V * U double ≤ N double x * U double := Int.mul_le_mul_of_nonneg_right x1 (by omega)
  rw [e3] at k5 k6
  rw [Int.neg_mul, Int.neg_mul, Int.neg_mul, Int.neg_mul] at k2
  obtain ⟨z, hz, hlt, hf, z1, z2, _⟩ := div_bd (f := double) (by decide) (by decide) hx hy cf df hy0 (by rw [cn]; omega) (by rw [dn]; omega)
  exact ⟨z, hz, hlt, hf, by omega, by omega⟩

/-- A constant: by the kernel. -/
theorem in_const {b : Nat} {l h : Int} (hb : b < 2 ^ 64) (hf : finb double b = true) (h1 : decide (l * V ≤ N double b) = true) (h2 : decide (N double b ≤ h * V) = true) : In (some b) l h :=
  ⟨b, rfl, hb, finb_iff.1 hf, of_decide_eq_true h1, of_decide_eq_true h2⟩

theorem in_one : In (some 0x3ff0000000000000) 4 4 := in_const (by decide) (by decide) (by decide +kernel) (by decide +kernel)
theorem in_2pi : In (some 4618760256179416344) 25 26 := in_const (by decide) (by decide) (by decide +kernel) (by decide +kernel)

theorem andNot64 {b : Nat} (hb : b < 2 ^ 64) : (bits .andNot .u64 (b : Int) 9223372036854775808).toNat = b % 9223372036854775808 := by
  have e : bits .andNot .u64 (b : Int) 9223372036854775808 = IntKind.u64.wrap ((BitVec.ofInt 64 (b : Int) &&& ~~~ BitVec.ofInt 64 9223372036854775808).toNat : Int) := rfl
  have e2 : (BitVec.ofInt 64 (b : Int) &&& ~~~ BitVec.ofInt 64 9223372036854775808).toNat = b % 9223372036854775808 := by
    rw [BitVec.ofInt_natCast, BitVec.toNat_and, BitVec.toNat_ofNat, Nat.mod_eq_of_lt hb]
    have : (~~~ BitVec.ofInt 64 9223372036854775808).toNat = 2 ^ 63 - 1 := by decide
    rw [this, Nat.and_two_pow_sub_one_eq_mod]
  rw [e, e2, IntKind.wrap_u64]
  have := Nat.mod_lt b (show 0 < 9223372036854775808 by decide)
  omega

theorem and_pow (b i : Nat) : b &&& 2 ^ i = b / 2 ^ i % 2 * 2 ^ i := by
  have hp := Nat.two_pow_pos i
  have h1 : (b &&& 2 ^ i) / 2 ^ i = (b / 2 ^ i) % 2 := by
    rw [Nat.and_div_two_pow, Nat.div_self hp, Nat.and_one_is_mod]
  have h2 : (b &&& 2 ^ i) % 2 ^ i = 0 := by
    rw [Nat.and_mod_two_pow, Nat.mod_self, Nat.and_zero]
  have := Nat.div_add_mod (b &&& 2 ^ i) (2 ^ i)
  rw [h1, h2, Nat.add_zero, Nat.mul_comm] at this
  exact this.symm

theorem and64 {b : Nat} (hb : b < 2 ^ 64) : bits .and .u64 (b : Int) 9223372036854775808 = if ng double b then 9223372036854775808 else 0 := by
  have e : bits .and .u64 (b : Int) 9223372036854775808 = IntKind.u64.wrap ((BitVec.ofInt 64 (b : Int) &&& BitVec.ofInt 64 9223372036854775808).toNat : Int) := rfl
  have e2 : (BitVec.ofInt 64 (b : Int) &&& BitVec.ofInt 64 9223372036854775808).toNat = b / 2 ^ 63 % 2 * 2 ^ 63 := by
    rw [BitVec.ofInt_natCast, BitVec.toNat_and, BitVec.toNat_ofNat, Nat.mod_eq_of_lt hb]
    have : (BitVec.ofInt 64 9223372036854775808).toNat = 2 ^ 63 := by decide
    rw [this, and_pow]
  have e3 : ng double b = (b / 2 ^ 63 % 2 == 1) := rfl
  rw [e, e2, e3]
  have h01 : b / 2 ^ 63 % 2 < 2 := Nat.mod_lt _ (by decide)
  generalize b / 2 ^ 63 % 2 = q at h01
  rcases (by omega : q = 0 ∨ q = 1) with rfl | rfl <;> decide

theorem mask_nat (b : Nat) : b &&& 2139095040 = b / 8388608 % 256 * 8388608 := by
  have h1 : (b &&& 2139095040) / 2 ^ 23 = (b / 2 ^ 23) % 2 ^ 8 := by
    rw [Nat.and_div_two_pow, show 2139095040 / 2 ^ 23 = 2 ^ 8 - 1 by decide, Nat.and_two_pow_sub_one_eq_mod]
  have h2 : (b &&& 2139095040) % 2 ^ 23 = 0 := by
    rw [Nat.and_mod_two_pow, show 2139095040 % 2 ^ 23 = 0 by decide, Nat.and_zero]
  have := Nat.div_add_mod (b &&& 2139095040) (2 ^ 23)
  rw [h1, h2] at this
  omega

theorem mask32 {b : Nat} (hb : b < 4294967296) : bits .and .i64 (b : Int) 2139095040 = ((b / 8388608 % 256 * 8388608 : Nat) : Int) := by
  have h := (bits_nat .i64 33 (by decide) (fun n h0 h1 => by rw [IntKind.wrap_i64]; omega) b 2139095040 (by omega) (by decide)).1
  rw [← mask_nat]
  exact h

theorem sign32 {b : Nat} (hb : b < 4294967296) : bits .and .i64 (b : Int) 2147483648 = if ng single b then 2147483648 else 0 := by
  have h := (bits_nat .i64 33 (by decide) (fun n h0 h1 => by rw [IntKind.wrap_i64]; omega) b 2147483648 (by omega) (by decide)).1
  have h' : bits .and .i64 (b : Int) 2147483648 = ((b &&& 2147483648 : Nat) : Int) := h
  have h2 : b &&& 2147483648 = b / 2 ^ 31 % 2 * 2 ^ 31 := and_pow b 31
  have e3 : ng single b = (b / 2 ^ 31 % 2 == 1) := rfl
  rw [h', h2, e3]
  have h01 : b / 2 ^ 31 % 2 < 2 := Nat.mod_lt _ (by decide)
  generalize b / 2 ^ 31 % 2 = q at h01
  rcases (by omega : q = 0 ∨ q = 1) with rfl | rfl <;> decide

/-- Between nought and the least normal number? -/
def sub (b : Nat) : Bool := decide (rung single b < 8388608 ∧ rung single b ≠ 0)

theorem rung_single (b : Nat) : rung single b = b % 2147483648 := rfl

theorem mask_zero {b : Nat} (hb : b < 4294967296) : (bits .and .i64 (b : Int) 2139095040 == 0) = decide (rung single b < 8388608) := by
  rw [mask32 hb, rung_single, Bool.eq_iff_iff]
  simp only [beq_iff_eq, decide_eq_true_eq]
  omega

theorem ne_zero (k : FloatKind) (b : Nat) : (k.format.order b 0 != some .eq) = decide (rung k.format b ≠ 0) := by
  have he := exp_pos k
  have hb := binade_le k.format he
  have hb' := binade_pos k.format
  rcases kinds k.format b with h | h | h
  · rw [order_fin he h (zero_fin k), N_zero]
    have e : N k.format b = 0 ↔ rung k.format b = 0 := by
      rw [← num_eq_zero (f := k.format)]
      have := num_abs k.format b
      omega
    by_cases h0 : rung k.format b = 0
    · rw [e.2 h0]; simp [h0]
    · have : N k.format b ≠ 0 := fun q => h0 (e.1 q)
      have c : compare (N k.format b) 0 ≠ .eq := by simpa [Int.compare_eq_eq] using this
      simp [h0, c]
  · have h0 : rung k.format b ≠ 0 := by omega
    unfold Format.order
    rw [read_inf he h, read_fin he (zero_fin k)]
    cases ng k.format b <;> simp [Datum.order, h0]
  · rw [order_nan (.inl h)]
    have h0 : rung k.format b ≠ 0 := by unfold nan at h; rw [decide_eq_true_eq] at h; omega
    simp [h0]

theorem nanCut_lt (q : Question) (t : Nat) (k : FloatKind) (h : (∃ x y, q = .nanBits k x y) ∨ (∃ b, q = .nanConv k b)) : q.cut t < 2 ^ k.format.width := by
  have h32 : ∀ t : Nat, (t % 2) * 2 ^ 31 + 0x7f800000 + 1 + (t / 2) % (2 ^ 23 - 1) < 2 ^ 32 := by
    intro t
    have hq : t / 2 % (2 ^ 23 - 1) < 8388607 := Nat.mod_lt _ (by decide)
    generalize t / 2 % (2 ^ 23 - 1) = q at hq
    rcases (by omega : t % 2 = 0 ∨ t % 2 = 1) with h | h <;> rw [h] <;> omega
  have h64 : ∀ t : Nat, (t % 2) * 2 ^ 63 + 0x7ff0000000000000 + 1 + (t / 2) % (2 ^ 52 - 1) < 2 ^ 64 := by
    intro t
    have hq : t / 2 % (2 ^ 52 - 1) < 4503599627370495 := Nat.mod_lt _ (by decide)
    generalize t / 2 % (2 ^ 52 - 1) = q at hq
    rcases (by omega : t % 2 = 0 ∨ t % 2 = 1) with h | h <;> rw [h] <;> omega
  rcases h with ⟨x, y, rfl⟩ | ⟨b, rfl⟩ <;> cases k
  · exact h32 t
  · exact h64 t
  · exact h32 t
  · exact h64 t

theorem floatBits_lt {op : BinOp} {k : FloatKind} {x y r : Nat} (h : floatBits op k x y = some r) : r < 2 ^ k.format.width := by
  unfold floatBits at h
  cases op <;> simp only at h <;> first | (cases h; done) | skip
  · exact k.format.add_lt h
  · exact k.format.sub_lt h
  · exact k.format.mul_lt h
  · exact k.format.div_lt h

theorem fa_lt (op : BinOp) (k : FloatKind) (x y : Nat) (w : World) : fa op k x y w < 2 ^ k.format.width := by
  unfold fa
  cases h : floatBits op k x y with
  | some r => exact floatBits_lt h
  | none => exact nanCut_lt _ _ k (.inl ⟨x, y, rfl⟩)

theorem cvq_cut_lt (s : FloatKind) (b : Nat) (d : FloatKind) (t : Nat) (hd : d = .f64 → (s.decode b).isNaN = true) : (cvq s b d).cut t < 2 ^ d.format.width := by
  unfold cvq
  by_cases h : (s.decode b).isNaN = true
  · rw [if_pos h]; exact nanCut_lt _ _ d (.inr ⟨b, rfl⟩)
  · rw [if_neg h]
    cases d
    · exact Nat.mod_lt _ (by decide)
    · exact absurd (hd rfl) h

theorem cv_wide_lt (b : Nat) (w : World) : cv .f32 b .f64 w < 2 ^ 64 := by
  unfold cv
  cases h : floatToFloatBits .f32 b .f64 with
  | some r =>
    unfold floatToFloatBits at h
    rw [if_neg (by decide)] at h
    split at h
    · cases h
    · cases h; exact Format.write_lt double _
    · split at h
      · cases h
      · cases h; exact Format.write_lt double _
  | none =>
    refine cvq_cut_lt .f32 b .f64 _ fun _ => ?_
    unfold floatToFloatBits at h
    rw [if_neg (by decide)] at h
    split at h
    · rename_i e; rw [e]; rfl
    · cases h
    · rename_i s m e he
      split at h
      · rename_i hi
        exfalso
        have hf : fin single b := by
          rcases kinds single b with k | k | k
          · exact k
          · have hh : FloatKind.decode .f32 b = .infinity (ng single b) := read_inf (by decide) k
            rw [hh] at he; cases he
          · obtain ⟨t, ht⟩ := read_nan (f := single) (by decide) k
            have hh : FloatKind.decode .f32 b = .nan (ng single b) t := ht
            rw [hh] at he; cases he
        have hw := (widen hf).1
        have hr : FloatKind.decode .f32 b = single.read b := rfl
        rw [← he, hr] at hi
        have := (fin_iff_inf (k := .f64) (x := double.write (single.read b)) (not_nan_of_fin hw)).2 hw
        have e2 : FloatKind.f64.decode (FloatKind.f64.encode (single.read b)) = double.read (double.write (single.read b)) := rfl
        rw [e2] at hi
        have e3 : (FloatKind.f64.format.read (double.write (single.read b))) = double.read (double.write (single.read b)) := rfl
        rw [e3, hi] at this
        cases this
      · cases h

theorem cv_narrow_lt (b : Nat) (w : World) : cv .f64 b .f32 w < 2 ^ 32 := by
  unfold cv
  cases h : floatToFloatBits .f64 b .f32 with
  | some r =>
    unfold floatToFloatBits at h
    rw [if_neg (by decide)] at h
    split at h
    · cases h
    · cases h; exact Format.write_lt single _
    · split at h
      · cases h
      · cases h; exact Format.write_lt single _
  | none => exact cvq_cut_lt .f64 b .f32 _ (fun e => by cases e)

/-- The absolute value of a double. -/
def absd (y : Nat) : Nat := y % 9223372036854775808

theorem absd_eq {y : Nat} (h : y < 2 ^ 64) : (bits .andNot .u64 (y : Int) 9223372036854775808).toNat = absd y := andNot64 h

theorem rung_absd (y : Nat) : rung double (absd y) = rung double y := by
  unfold rung absd
  have : double.signWeight = 9223372036854775808 := rfl
  rw [this, Nat.mod_mod]
theorem ng_absd (y : Nat) : ng double (absd y) = false := by
  unfold ng absd
  have : double.signWeight = 9223372036854775808 := rfl
  rw [this, Nat.div_eq_of_lt (Nat.mod_lt _ (by decide))]; rfl
theorem absd_lt (y : Nat) : absd y < 2 ^ 64 := by unfold absd; have := Nat.mod_lt y (show 0 < 9223372036854775808 by decide); omega
theorem fin_absd {y : Nat} : fin double (absd y) ↔ fin double y := by unfold fin; rw [rung_absd]
theorem N_absd (y : Nat) : N double (absd y) = (N double y).natAbs := by
  have := num_abs double y
  unfold N at this ⊢
  rw [ng_absd, rung_absd]; simpa using this
theorem nan_absd (y : Nat) : nan double (absd y) = nan double y := by unfold nan; rw [rung_absd]

theorem pow_gap : (2 : Int) ^ (23 + gapP) = 8388608 * 2 ^ gapP := by
  have h : (2 : Int) ^ 23 = 8388608 := by decide
  rw [Int.pow_add, h]

theorem lt_scale (a c g : Nat) : ((a * 2 ^ g : Nat) : Int) < (c : Int) * 2 ^ g ↔ a < c := by
  have hpos := Nat.two_pow_pos g
  constructor
  · intro q
    have q' : a * 2 ^ g < c * 2 ^ g := by exact_mod_cast q
    exact Nat.lt_of_mul_lt_mul_right q'
  · intro q
    have q' : a * 2 ^ g < c * 2 ^ g := Nat.mul_lt_mul_of_pos_right q hpos
    exact_mod_cast q'

theorem N_least : N double 4039728865751334912 = 2 ^ (23 + gapP) := by decide +kernel

theorem compare_lt {a b : Int} : (some (compare a b) == some Ordering.lt) = decide (a < b) := by
  rw [order_eq]
  rcases Int.lt_trichotomy a b with h | h | h
  · rw [if_pos h]; simp [h]
  · subst h; simp
  · rw [if_neg (by omega), if_neg (by omega)]; simp; omega

/-- Is the absolute value below the least normal number? -/
theorem below_least (b : Nat) (w : World) : (FloatKind.f64.format.order (absd (cv .f32 b .f64 w)) 4039728865751334912 == some .lt) = decide (rung single b < 8388608) := by
  have he : 0 < double.exponentBits := by decide
  have e2 : single.infRung = 2139095040 := rfl
  rcases kinds single b with h | h | h
  · obtain ⟨hf, hN, _⟩ := widen h
    have hc : cls .f64 (cv .f32 b .f64 w) = some (double.write (single.read b)) := by
      rw [cls_widen, cls_fin (k := .f32) h]; rfl
    have hcv : cv .f32 b .f64 w = double.write (single.read b) := by
      unfold cls at hc
      split at hc
      · cases hc
      · exact Option.some.inj hc
    rw [hcv]
    have ho := order_fin (f := double) he (fin_absd.2 hf) (show fin double 4039728865751334912 by unfold fin; decide)
    have ho' : FloatKind.f64.format.order (absd (double.write (single.read b))) 4039728865751334912 = some (compare (N double (absd (double.write (single.read b)))) (N double 4039728865751334912)) := ho
    rw [ho', compare_lt, N_absd, hN, N_least, pow_gap, Int.natAbs_mul]
    have hp : (2 ^ gapP : Int).natAbs = 2 ^ gapP := by rw [Int.natAbs_pow]; exact congrArg (· ^ gapP) (show (2 : Int).natAbs = 2 from rfl)
    rw [hp]
    have hn := num_abs single b
    have h23 : num single 8388608 = 8388608 := by decide
    have hm := num_mono (f := single) (r := 8388608) (t := rung single b)
    rw [h23] at hm
    have key := lt_scale (N single b).natAbs 8388608 gapP
    rw [Bool.eq_iff_iff, decide_eq_true_eq, decide_eq_true_eq]
    refine key.trans ?_
    omega
  · have hc : cls .f64 (cv .f32 b .f64 w) = some (double.word (ng single b) double.infRung) := by
      have hn : nan single b = false := by unfold nan; rw [decide_eq_false_iff_not]; omega
      rw [cls_widen, cls_some (k := .f32) hn]
      have hr : single.read b = .infinity (ng single b) := read_inf (by decide) h
      show some (double.write (single.read b)) = _
      rw [hr]; rfl
    have hcv : cv .f32 b .f64 w = double.word (ng single b) double.infRung := by
      unfold cls at hc
      split at hc
      · cases hc
      · exact Option.some.inj hc
    rw [hcv, show rung single b = 2139095040 from h]
    cases ng single b <;> decide +kernel
  · have hc : cls .f64 (cv .f32 b .f64 w) = none := by rw [cls_widen, cls_none (k := .f32) h]; rfl
    have hn : nan double (absd (cv .f32 b .f64 w)) = true := by
      rw [nan_absd]
      unfold cls at hc
      split at hc
      · assumption
      · cases hc
    rw [order_nan (k := .f64) (.inl hn)]
    unfold nan at h
    rw [decide_eq_true_eq] at h
    have : ¬ rung single b < 8388608 := by omega
    simp [this]

/-- A word of 32 bits, of 64 bits. -/
def W32 (b : Nat) : Prop := b < 4294967296
def W64 (b : Nat) : Prop := b < 2 ^ 64
theorem W32.le {b : Nat} (h : W32 b) : (b : Int) ≤ 4294967295 := by unfold W32 at h; omega
theorem W64.le {b : Nat} (h : W64 b) : (b : Int) ≤ 18446744073709551615 := by unfold W64 at h; omega

/-- What BitsOf gives. -/
def bt (b : Nat) : Int := if nan FloatKind.f32.format b then 2143289344 else b
/-- Are the two the same number? -/
def same (a b : Nat) : Bool := bt a == bt b

theorem sub_of_zero {b : Nat} (h : false = decide (rung FloatKind.f32.format b ≠ 0)) : sub b = false := by
  have h' : rung single b = 0 := Classical.byContradiction fun q => by rw [decide_eq_true (show rung FloatKind.f32.format b ≠ 0 from q)] at h; cases h
  unfold sub; simp [h']
theorem sub_of_ne {b : Nat} (h : true = decide (rung FloatKind.f32.format b ≠ 0)) : sub b = decide (rung single b < 8388608) := by
  have h' : ¬ rung single b = 0 := fun q => by rw [decide_eq_false (show ¬ rung FloatKind.f32.format b ≠ 0 from fun r => r q)] at h; cases h
  unfold sub
  rw [Bool.eq_iff_iff, decide_eq_true_eq, decide_eq_true_eq]
  exact ⟨fun q => q.1, fun q => ⟨q, h'⟩⟩

theorem mask_bt {b : Nat} (hw : W32 b) : (bits .and .i64 (bt b) 2139095040 == 0) = decide (rung single b < 8388608) := by
  unfold bt
  cases h : nan FloatKind.f32.format b
  · exact mask_zero hw
  · have h1 : ¬ rung single b < 8388608 := by
      unfold nan at h; rw [decide_eq_true_eq] at h
      have e : FloatKind.f32.format.infRung = 2139095040 := rfl
      have e2 : rung FloatKind.f32.format b = rung single b := rfl
      omega
    rw [decide_eq_false h1, if_pos rfl]
    decide

theorem fin_or_inf {k : FloatKind} {a : Nat} (h : nan k.format a = false) : fin k.format a ∨ rung k.format a = k.format.infRung := by
  rcases kinds k.format a with q | q | q
  · exact .inl q
  · exact .inr q
  · rw [h] at q; cases q

theorem N_eq_iff {f : Format} {a b : Nat} : N f a = N f b ↔ (rung f a = rung f b ∧ (rung f a = 0 ∨ ng f a = ng f b)) := by
  have na := num_abs f a
  have nb := num_abs f b
  have mono1 := num_mono (f := f) (r := rung f a) (t := rung f b)
  have mono2 := num_mono (f := f) (r := rung f b) (t := rung f a)
  have z := num_eq_zero (f := f) (r := rung f a)
  constructor
  · intro h
    rw [h] at na
    have hr : rung f a = rung f b := by omega
    refine ⟨hr, ?_⟩
    by_cases h0 : rung f a = 0
    · exact .inl h0
    · right
      have : N f a ≠ 0 := by
        intro q
        rw [h] at q
        have : num f (rung f a) = 0 := by omega
        exact h0 (z.1 this)
      rw [ng_of_N this, ng_of_N (h ▸ this), h]
  · rintro ⟨hr, h | h⟩
    · have e : num f (rung f a) = 0 := z.2 h
      rw [hr] at e
      have e' := e
      rw [← hr] at e'
      omega
    · unfold N; rw [h, hr]

theorem order_eq_iff {k : FloatKind} {a b : Nat} (ha : nan k.format a = false) (hb : nan k.format b = false) :
    (k.format.order a b == some .eq) = true ↔ (rung k.format a = rung k.format b ∧ (rung k.format a = 0 ∨ ng k.format a = ng k.format b)) := by
  have he := exp_pos k
  have hpos : 0 < k.format.infRung := Nat.lt_of_lt_of_le (binade_pos _) (binade_le _ he)
  have hc : ∀ x y : Int, (some (compare x y) == some Ordering.eq) = true ↔ x = y := by
    intro x y
    rw [order_eq]
    rcases Int.lt_trichotomy x y with h | h | h
    · rw [if_pos h]; simp; omega
    · subst h; simp
    · rw [if_neg (by omega), if_neg (by omega)]; simp; omega
  rcases fin_or_inf ha with fa | ia <;> rcases fin_or_inf hb with fb | ib
  · rw [order_fin he fa fb, hc, N_eq_iff]
  · unfold Format.order
    rw [read_fin he fa, read_inf he ib]
    unfold fin at fa
    have : ¬ rung k.format a = rung k.format b := by omega
    cases ng k.format b <;> simp [Datum.order, this]
  · unfold Format.order
    rw [read_inf he ia, read_fin he fb]
    unfold fin at fb
    have : ¬ rung k.format a = rung k.format b := by omega
    cases ng k.format a <;> simp [Datum.order, this]
  · unfold Format.order
    rw [read_inf he ia, read_inf he ib]
    have h0 : ¬ k.format.infRung = 0 := by omega
    rw [ia, ib]
    cases ng k.format a <;> cases ng k.format b <;> simp [Datum.order, h0] <;> decide

theorem bt_not {a : Nat} (h : nan FloatKind.f32.format a = false) : bt a = a := by unfold bt; rw [h]; rfl
theorem bt_nan {a : Nat} (h : nan FloatKind.f32.format a = true) : bt a = 2143289344 := by unfold bt; rw [h]; rfl

theorem word_eq_iff {a b : Nat} (ha : W32 a) (hb : W32 b) : a = b ↔ rung single a = rung single b ∧ ng single a = ng single b := by
  constructor
  · rintro rfl; exact ⟨rfl, rfl⟩
  · rintro ⟨h1, h2⟩
    rw [← word_of (f := single) ha, ← word_of (f := single) hb, h1, h2]

theorem same_iff {a b : Nat} (ha : W32 a) (hb : W32 b) (na : nan FloatKind.f32.format a = false) (nb : nan FloatKind.f32.format b = false) :
    same a b = true ↔ rung single a = rung single b ∧ ng single a = ng single b := by
  unfold same
  rw [bt_not na, bt_not nb, ← word_eq_iff ha hb, beq_iff_eq]
  exact ⟨fun h => by exact_mod_cast h, fun h => by rw [h]⟩

theorem same_ne {a b : Nat} (ha : W32 a) (hb : W32 b) (na : nan FloatKind.f32.format a = false) (nb : nan FloatKind.f32.format b = false) (h : (FloatKind.f32.format.order a b == some .eq) = false) : same a b = false := by
  cases hs : same a b
  · rfl
  · have q := (same_iff ha hb na nb).1 hs
    have := (order_eq_iff na nb).2 ⟨q.1, .inr q.2⟩
    rw [h] at this; cases this

theorem same_eq {a b : Nat} (ha : W32 a) (hb : W32 b) (na : nan FloatKind.f32.format a = false) (nb : nan FloatKind.f32.format b = false) (h : (FloatKind.f32.format.order a b == some .eq) = true) :
    same a b = (ng FloatKind.f32.format a == ng FloatKind.f32.format b) := by
  have q := (order_eq_iff na nb).1 h
  rw [Bool.eq_iff_iff, same_iff ha hb na nb, beq_iff_eq]
  exact ⟨fun r => r.2, fun r => ⟨q.1, r⟩⟩

theorem nan_const : nan FloatKind.f32.format 2143289344 = true := by decide

theorem same_nan_right {a b : Nat} (na : nan FloatKind.f32.format a = false) (nb : nan FloatKind.f32.format b = true) : same a b = false := by
  unfold same
  rw [bt_not na, bt_nan nb]
  rw [beq_eq_false_iff_ne]
  intro h
  have : a = 2143289344 := Int.ofNat.inj h
  rw [this, nan_const] at na; cases na
theorem same_nan_left {a b : Nat} (na : nan FloatKind.f32.format a = true) (nb : nan FloatKind.f32.format b = false) : same a b = false := by
  unfold same
  rw [bt_nan na, bt_not nb]
  rw [beq_eq_false_iff_ne]
  intro h
  have : b = 2143289344 := Int.ofNat.inj h.symm
  rw [this, nan_const] at nb; cases nb
theorem same_nans {a b : Nat} (na : nan FloatKind.f32.format a = true) (nb : nan FloatKind.f32.format b = true) : same a b = true := by
  unfold same; rw [bt_nan na, bt_nan nb]; rfl

theorem cv_wide {a : Nat} (h : nan FloatKind.f32.format a = false) (w : World) : cv .f32 a .f64 w = double.write (single.read a) := by
  have hc : cls .f64 (cv .f32 a .f64 w) = some (double.write (single.read a)) := by
    rw [cls_widen, cls_some (k := .f32) h]; rfl
  unfold cls at hc
  split at hc
  · cases hc
  · exact Option.some.inj hc

theorem ng_wide {a : Nat} {w : World} (h : nan FloatKind.f32.format a = false) : ng FloatKind.f64.format (cv .f32 a .f64 w) = ng FloatKind.f32.format a := by
  rw [cv_wide h]
  rcases fin_or_inf (k := .f32) h with f | i
  · exact (widen f).2.2
  · have hr : single.read a = .infinity (ng single a) := read_inf (by decide) i
    show ng double (double.write (single.read a)) = ng single a
    rw [hr]
    exact ng_word double _ double.infRung_lt

theorem signbit (b : Nat) : decide (Go.RowKit.wrap64 (b : Int) < 0) = ng FloatKind.f64.format b := by
  have e : ng FloatKind.f64.format b = (b / 9223372036854775808 % 2 == 1) := rfl
  rw [e]
  have hw : Go.RowKit.wrap64 (b : Int) = ((b : Int) + 9223372036854775808) % 18446744073709551616 - 9223372036854775808 := rfl
  rw [hw]
  rw [Bool.eq_iff_iff]
  simp only [decide_eq_true_eq, beq_iff_eq]
  omega

/-- What math.Sqrt gives. -/
def sq (x : Nat) (w : World) : Nat :=
  match double.sqrt x with
  | some r => r
  | none => (Question.nanBits .f64 x x).cut (w.tape w.drawn (.nanBits .f64 x x))
def sqd (x : Nat) : Nat := if (double.sqrt x).isSome then 0 else 1

theorem run_sqrt_entry {P : Program} (x : Nat) (w : World) : (Extern.MathSqrt.sqrt #[.float .f64 x]).run P w = .ok (.float .f64 (sq x w)) (w.drewN (sqd x)) := by
  unfold sq sqd
  change Sem.run P (match double.sqrt x with
    | some r => (pure (Value.float .f64 r) : Sem Value)
    | none => do pure (Value.float .f64 (← choose (.nanBits .f64 x x)))) w = _
  cases h : double.sqrt x with
  | some r => simp [World.drewN_zero]
  | none => simp [Question.forced, World.drew_is_drewN]

theorem sqrt_not_nan {x r : Nat} (h : double.sqrt x = some r) : nan double x = false ∧ nan double r = false ∧ r < 2 ^ 64 := by
  refine ⟨?_, ?_, double.sqrt_lt h⟩
  · cases hb : nan double x
    · rfl
    · obtain ⟨t, e⟩ := read_nan (f := double) (by decide) hb
      unfold Format.sqrt at h
      rw [e] at h
      simp [Datum.root] at h
  · unfold Format.sqrt at h
    rw [Option.map_eq_some_iff] at h
    obtain ⟨d, hd, rfl⟩ := h
    refine write_not_nan ?_
    unfold Datum.root at hd
    split at hd
    · cases hd
    · split at hd
      · cases hd
      · cases hd; rfl
    · split at hd
      · cases hd; rfl
      · split at hd
        · cases hd
        · cases hd; rfl

theorem cls_sq (x : Nat) (w : World) : cls .f64 (sq x w) = (cls .f64 x).bind double.sqrt := by
  unfold sq
  cases h : double.sqrt x with
  | some r =>
    have := sqrt_not_nan h
    rw [cls_some (k := .f64) this.1, cls_some (k := .f64) this.2.1]
    exact h.symm
  | none =>
    simp only
    rw [cls_none (nan_cut _ _ .f64 (.inl ⟨x, x, rfl⟩))]
    unfold cls
    split
    · rfl
    · exact h.symm

theorem sq_lt (x : Nat) (w : World) : sq x w < 2 ^ 64 := by
  unfold sq
  cases h : double.sqrt x with
  | some r => exact (sqrt_not_nan h).2.2
  | none => exact nanCut_lt _ _ .f64 (.inl ⟨x, x, rfl⟩)

/-- What math.Floor and math.Trunc give of a number that is one. -/
def flo (x : Nat) : Nat := double.write ((double.read x).integral .down)
def trn (x : Nat) : Nat := double.write ((double.read x).integral .zero)

theorem run_integral {P : Program} (name : String) (way : Toward) (x : Nat) (hx : nan double x = false) (w : World) :
    (Extern.MathFloor.toIntegral name way #[.float .f64 x]).run P w = .ok (.float .f64 (double.write ((double.read x).integral way))) w := by
  have h : (double.read x).isNaN = false := by
    cases hb : (double.read x).isNaN
    · rfl
    · have := (read_nan_iff (k := .f64)).2 hb
      rw [show nan FloatKind.f64.format x = nan double x from rfl, hx] at this; cases this
  change Sem.run P (match double.read x with
    | .nan s t =>
      if FloatKind.f64.format.quiet t = t then (pure (Value.float .f64 x) : Sem Value) else do
      let kept ← choose (.extern "math.Floor,Ceil,Trunc,RoundToEven.signallingNaN kept" 2)
      pure (Value.float .f64 (if kept == 1 then x else FloatKind.f64.encode (.nan s (FloatKind.f64.format.quiet t))))
    | d => pure (Value.float .f64 (double.write (d.integral way)))) w = _
  cases hd : double.read x with
  | nan s t => rw [hd] at h; simp [Datum.isNaN] at h
  | number s m p => simp
  | infinity s => simp

theorem integral_not_nan {d : Datum} (way : Toward) (h : d.isNaN = false) : (d.integral way).isNaN = false := by
  cases d <;> simp_all [Datum.integral, Datum.isNaN]

/-- Copysign of nought. -/
theorem copysign0 {y : Nat} (hy : W64 y) : (bits .or .u64 (bits .andNot .u64 0 9223372036854775808) (bits .and .u64 (y : Int) 9223372036854775808)).toNat = if ng double y then 9223372036854775808 else 0 := by
  rw [and64 hy]
  cases ng double y <;> decide

theorem narrow0 (s : Bool) (w : World) : cv .f64 (if s then 9223372036854775808 else 0) .f32 w = if s then 2147483648 else 0 := by
  unfold cv
  have h : floatToFloatBits .f64 (if s then 9223372036854775808 else 0) .f32 = some (if s then 2147483648 else 0) := by
    cases s <;> decide +kernel
  rw [h]

theorem narrow0d (s : Bool) : cd .f64 (if s then 9223372036854775808 else 0) .f32 = 0 := by
  cases s <;> decide +kernel

/-- What FlushNumber gives. -/
def flush (b : Nat) : Nat := if rung single b < 8388608 then (if ng single b then 2147483648 else 0) else b

theorem flush_sub {b : Nat} (h : sub b = true) : flush b = if ng single b then 2147483648 else 0 := by
  unfold sub at h; rw [decide_eq_true_eq] at h
  unfold flush; rw [if_pos h.1]

theorem flush_not {b : Nat} (hb : W32 b) (h : sub b = false) : flush b = b := by
  unfold sub at h; rw [decide_eq_false_iff_not] at h
  unfold flush
  by_cases c : rung single b < 8388608
  · rw [if_pos c]
    have h0 : rung single b = 0 := Classical.byContradiction fun q => h ⟨c, q⟩
    have := word_of (f := single) hb
    rw [h0] at this
    rw [← this]
    have hw : ng single (single.word (ng single b) 0) = ng single b := ng_word _ _ (by decide)
    rw [hw]
    cases ng single b <;> rfl
  · rw [if_neg c]

theorem sign_bt {b : Nat} (hb : W32 b) (h : rung single b < 8388608) : bits .and .i64 (bt b) 2147483648 = if ng single b then 2147483648 else 0 := by
  have hn : nan FloatKind.f32.format b = false := by
    unfold nan; rw [decide_eq_false_iff_not]
    have e : FloatKind.f32.format.infRung = 2139095040 := rfl
    have e2 : rung FloatKind.f32.format b = rung single b := rfl
    omega
  rw [bt_not hn]; exact sign32 hb

/-- A nought with a sign. -/
def sg64 (s : Bool) : Nat := if s then 9223372036854775808 else 0
def sg32 (s : Bool) : Nat := if s then 2147483648 else 0
theorem sg32_le (s : Bool) : 0 ≤ (sg32 s : Int) ∧ (sg32 s : Int) ≤ 4294967295 := by cases s <;> decide
theorem copysign_sg {y : Nat} (hy : W64 y) : (bits .or .u64 (bits .andNot .u64 0 9223372036854775808) (bits .and .u64 (y : Int) 9223372036854775808)).toNat = sg64 (ng FloatKind.f64.format y) := copysign0 hy
theorem narrow_sg (s : Bool) (w : World) : cv .f64 (sg64 s) .f32 w = sg32 s := narrow0 s w
theorem sign_sg {b : Nat} (hb : W32 b) (h : rung single b < 8388608) : bits .and .i64 (bt b) 2147483648 = (sg32 (ng FloatKind.f32.format b) : Int) := by
  rw [sign_bt hb h]
  show _ = (sg32 (ng single b) : Int)
  cases ng single b <;> rfl
theorem flush_sg {b : Nat} (h : sub b = true) : flush b = sg32 (ng FloatKind.f32.format b) := flush_sub h

theorem compare_gt {a b : Int} : (some (compare a b) == some Ordering.gt) = decide (b < a) := by
  rw [order_eq]
  rcases Int.lt_trichotomy a b with h | h | h
  · rw [if_pos h]; simp; omega
  · subst h; simp
  · rw [if_neg (by omega), if_neg (by omega)]; simp [h]
theorem compare_eq {a b : Int} : (some (compare a b) == some Ordering.eq) = decide (a = b) := by
  rw [order_eq]
  rcases Int.lt_trichotomy a b with h | h | h
  · rw [if_pos h]; simp; omega
  · subst h; simp
  · rw [if_neg (by omega), if_neg (by omega)]; simp; omega

theorem le_not_gt {k : FloatKind} {x y : Nat} (hx : fin k.format x) (hy : fin k.format y) :
    (!(k.format.order x y == some .gt)) = ((k.format.order x y == some .lt) || (k.format.order x y == some .eq)) := by
  rw [order_fin (exp_pos k) hx hy, compare_gt, compare_lt, compare_eq, Bool.eq_iff_iff]
  simp only [Bool.not_eq_true', decide_eq_false_iff_not, Bool.or_eq_true, decide_eq_true_eq]
  omega

theorem ge_not_lt {k : FloatKind} {x y : Nat} (hx : fin k.format x) (hy : fin k.format y) :
    (!(k.format.order x y == some .lt)) = ((k.format.order x y == some .gt) || (k.format.order x y == some .eq)) := by
  rw [order_fin (exp_pos k) hx hy, compare_gt, compare_lt, compare_eq, Bool.eq_iff_iff]
  simp only [Bool.not_eq_true', decide_eq_false_iff_not, Bool.or_eq_true, decide_eq_true_eq]
  omega

theorem sub_not_nan {b : Nat} (h : sub b = true) : nan FloatKind.f32.format b = false := by
  unfold sub at h; rw [decide_eq_true_eq] at h
  unfold nan; rw [decide_eq_false_iff_not]
  have e : FloatKind.f32.format.infRung = 2139095040 := rfl
  have e2 : rung FloatKind.f32.format b = rung single b := rfl
  omega

theorem flush_low {b : Nat} (h : rung single b < 8388608) : flush b = sg32 (ng FloatKind.f32.format b) := by unfold flush; rw [if_pos h]; rfl

theorem bt_range {b : Nat} (hw : W32 b) : 0 ≤ bt b ∧ bt b ≤ 4294967295 := by
  have := hw.le
  unfold bt
  split <;> omega

section
variable (P : Program) (w : World) (a : Addr) (m : Mode)
@[go_sem] theorem run_store_float (k : FloatKind) (b : Nat) : (store a (.float k b) m).run P w = stored P w a (.float k b) m := run_store P w a _ m rfl
@[go_sem] theorem run_store_complex (k : FloatKind) (b c : Nat) : (store a (.complex k b c) m).run P w = stored P w a (.complex k b c) m := run_store P w a _ m rfl
end

end Go.Proofs.Ytjpbimfnppmbcaa.Fl
