/- A region that draws its order, whose operations leave the memory as it is but may draw answers (the bits of a not-a-number), and whose calls only read: one walk in the order of the text serves every order. Of each operation a set of values is told; what follows is asked for every one of them. (After Derived/Deep/Quiet.lean, a set of values in the place of the one value.) -/
import Derived.Still
import Derived.Deep.Draws
namespace Go.Proofs.YtcaceplnlfmejaaGreatDoor.Soft
open Go
section
variable {P : Program} {ops : Array Oper} {md : Region.Mode} {C : World → Prop} {T : FuncId → Array Value → Value → Prop}

/-- The values that a run may give in the worlds of the class; of a call those that its table tells. -/
def may (P : Program) (C : World → Prop) (T : FuncId → Array Value → Value → Prop) (s : Sem Next) (v : Value) : Prop :=
  ∃ w w', C w ∧ (s.run P w = .ok (.value v) w' ∨ (s.run P w = .ok .skip w' ∧ v = undef) ∨ ∃ f args, s.run P w = .ok (.enter f args) w' ∧ T f args v)

/-- In the world w the run ends in a value and in a world of the class; a call keeps to its table. -/
def upon (P : Program) (C : World → Prop) (T : FuncId → Array Value → Value → Prop) : Result Next → Prop
  | .ok (.value _) w' => C w'
  | .ok .skip w' => C w'
  | .ok (.enter f args) w' => Calls P f args w' (fun e w'' => ∃ v, e = .returned v ∧ T f args v ∧ C w'')
  | _ => False

/-- One operation. -/
def soft (P : Program) (C : World → Prop) (T : FuncId → Array Value → Value → Prop) (o : Oper) (a : Act) (next : Act → Prop) : Prop :=
  (∀ w, C w → upon P C T ((execOp a.eval o).run P w)) ∧ ∀ v, may P C T (execOp a.eval o) v → next (a.put o.dst v)

/-- The walk in the order of the text. -/
def wpSoft (P : Program) (ops : Array Oper) (C : World → Prop) (T : FuncId → Array Value → Value → Prop) (Q : Act → Prop) : List Oper → Act → Prop
  | [], a => Q a
  | o :: rest, a => if Region.wanted o (yielded ops a.tmps) then soft P C T o a (wpSoft P ops C T Q rest) else wpSoft P ops C T Q rest (a.put o.dst undef)

theorem wpSoft_nil {Q : Act → Prop} {a : Act} (h : Q a) : wpSoft P ops C T Q [] a := h

def sOp (P : Program) (ops : Array Oper) (C : World → Prop) (T : FuncId → Array Value → Value → Prop) (i : Nat) (K : Act → Prop) (a : Act) : Prop :=
  match ops[i]? with
  | none => K a
  | some o => if Region.wanted o (yielded ops a.tmps) then soft P C T o a K else K (a.put o.dst undef)

theorem soft_mono {o : Oper} {a : Act} {K K' : Act → Prop} (h : ∀ a, K a → K' a) (hh : soft P C T o a K) : soft P C T o a K' :=
  ⟨hh.1, fun v hv => h _ (hh.2 v hv)⟩

theorem sOp_mono {i : Nat} {a : Act} {K K' : Act → Prop} (h : ∀ a, K a → K' a) (hh : sOp P ops C T i K a) : sOp P ops C T i K' a := by
  unfold sOp at *
  split
  · exact h _ (by simpa [*] using hh)
  · rename_i o ho
    simp only [ho] at hh
    split
    · rename_i hw; simp only [hw, if_true] at hh; exact soft_mono h hh
    · rename_i hw; simp only [hw] at hh; exact h _ hh

def wpAnyS (P : Program) (md : Region.Mode) (ops : Array Oper) (C : World → Prop) (T : FuncId → Array Value → Value → Prop) (Q : Act → Prop) : Nat → Array Bool → Act → Prop
  | 0, listed, a => Region.ready md ops listed = [] ∧ Q a
  | fuel + 1, listed, a =>
    (Region.ready md ops listed = [] → Q a) ∧
    ∀ i ∈ Region.ready md ops listed, sOp P ops C T i (wpAnyS P md ops C T Q fuel (listed.setIfInBounds i true)) a

theorem wp_of_soft {o : Oper} {a : Act} {K : Act → Prop} {K' : Act → World → Prop} {Q' : Exit → Act → World → Prop} {w : World} (hw : C w) (h : ∀ a w', C w' → K a → K' a w') (hh : soft P C T o a K) : o.wp P a w K' Q' := by
  obtain ⟨h1, h2⟩ := hh
  have h3 := h1 w hw
  unfold Oper.wp
  generalize hr : (execOp a.eval o).run P w = r at *
  cases r with
  | ok n w' =>
    cases n <;> simp only [upon] at h3 <;> simp only [Oper.upon]
    case value u => exact h _ _ h3 (h2 _ ⟨w, w', hw, .inl hr⟩)
    case skip => exact h _ _ h3 (h2 _ ⟨w, w', hw, .inr (.inl ⟨hr, rfl⟩)⟩)
    case enter f args =>
      refine h3.mono fun e w'' ⟨v, he, ht, hc⟩ => ?_
      subst he
      exact h _ _ hc (h2 _ ⟨w, w', hw, .inr (.inr ⟨f, args, hr, ht⟩)⟩)
  | halt x w' => simp only [upon] at h3

theorem wpOp_of_sOp {i : Nat} {a : Act} {K : Act → Prop} {K' : Act → World → Prop} {Q' : Exit → Act → World → Prop} {w : World} (hC : C w) (h : ∀ a w', C w' → K a → K' a w') (hh : sOp P ops C T i K a) : wpOp P ops Q' i K' a w := by
  unfold sOp at hh
  unfold wpOp
  split
  · rename_i ho; simp only [ho] at hh; exact h _ _ hC hh
  · rename_i o ho
    simp only [ho] at hh
    split
    · rename_i hw; simp only [hw, if_true] at hh; exact .inl (wp_of_soft hC h hh)
    · rename_i hw; simp only [hw] at hh; exact h _ _ hC hh

theorem wpAny_of_soft {Q : Act → Prop} {Q' : Exit → Act → World → Prop} (hQ : ∀ a w, C w → Q a → Q' .normal a w) : ∀ (fuel : Nat) (listed : Array Bool) (a : Act) (w : World), C w →
    wpAnyS P md ops C T Q fuel listed a → wpAny P md ops Q' fuel listed a w
  | 0, _, _, _, hw, h => ⟨h.1, hQ _ _ hw h.2⟩
  | fuel + 1, _, _, _, hw, h => ⟨fun h0 => hQ _ _ hw (h.1 h0), fun i hi => wpOp_of_sOp hw (fun a' w' hw' => wpAny_of_soft hQ fuel _ a' w' hw') (h.2 i hi)⟩

/-- The set of values of an operation in a state. -/
def vals (P : Program) (ops : Array Oper) (C : World → Prop) (T : FuncId → Array Value → Value → Prop) (o : Oper) (a : Act) (v : Value) : Prop :=
  if Region.wanted o (yielded ops a.tmps) then may P C T (execOp a.eval o) v else v = undef
def yields (P : Program) (ops : Array Oper) (C : World → Prop) (T : FuncId → Array Value → Value → Prop) (o : Oper) (a : Act) : Prop :=
  Region.wanted o (yielded ops a.tmps) = true → ∀ w, C w → upon P C T ((execOp a.eval o).run P w)

theorem sOp_iff {i : Nat} {o : Oper} {a : Act} {K : Act → Prop} (hi : ops[i]? = some o) : sOp P ops C T i K a ↔ yields P ops C T o a ∧ ∀ v, vals P ops C T o a v → K (a.put o.dst v) := by
  unfold sOp yields vals soft
  simp only [hi]
  by_cases hw : Region.wanted o (yielded ops a.tmps) = true
  · simp only [hw, if_true, forall_const]
  · simp only [hw, Bool.false_eq_true, if_false, false_implies, true_and, forall_eq]

theorem same_put {oi oj : Oper} (hap : oi.apart ops oj = true) (hsi : ∀ cs b, oi.op ≠ .select cs b) (a : Act) (u : Value) :
    (yields P ops C T oi (a.put oj.dst u) ↔ yields P ops C T oi a) ∧ ∀ v, vals P ops C T oi (a.put oj.dst u) v ↔ vals P ops C T oi a v := by
  obtain ⟨_, _, h3⟩ := Oper.apart_spec hap
  unfold yields vals
  rw [wanted_put oi a oj.dst u h3, execOp_put oi hsi a oj.dst u h3]
  exact ⟨Iff.rfl, fun _ => Iff.rfl⟩

theorem sOp_put {j : Nat} {oi oj : Oper} (hj : ops[j]? = some oj) (hap : oi.apart ops oj = true)
    (hsi : ∀ cs b, oi.op ≠ .select cs b) (hsj : ∀ cs b, oj.op ≠ .select cs b) {K : Act → Prop} {a : Act} {Y : Value → Prop} (hne : ∃ v, Y v)
    (hy : yields P ops C T oi a ∧ ∀ v, vals P ops C T oi a v ↔ Y v) (h : ∀ v, Y v → sOp P ops C T j K (a.put oi.dst v)) :
    sOp P ops C T j (fun a' => (yields P ops C T oi a' ∧ ∀ v, vals P ops C T oi a' v ↔ Y v) ∧ ∀ v, Y v → K (a'.put oi.dst v)) a := by
  obtain ⟨h1, h2, h3⟩ := Oper.apart_spec hap
  have eqj : ∀ v, (yields P ops C T oj (a.put oi.dst v) ↔ yields P ops C T oj a) ∧ ∀ u, vals P ops C T oj (a.put oi.dst v) u ↔ vals P ops C T oj a u := by
    intro v
    unfold yields vals
    rw [wanted_put oj a oi.dst v h1, execOp_put oj hsj a oi.dst v h1]
    exact ⟨Iff.rfl, fun _ => Iff.rfl⟩
  rw [sOp_iff hj]
  obtain ⟨v0, hv0⟩ := hne
  refine ⟨((eqj v0).1).1 (((sOp_iff hj).1 (h v0 hv0)).1), fun u hu => ⟨⟨((same_put hap hsi a u).1).2 hy.1, fun v => ((same_put hap hsi a u).2 v).trans (hy.2 v)⟩, fun v hv => ?_⟩⟩
  have := ((sOp_iff hj).1 (h v hv)).2 u (((eqj v).2 u).2 hu)
  rwa [Act.put_comm a v u h2] at this

theorem wpAnyS_first {Q : Act → Prop} {i : Nat} {oi : Oper} {Y : Value → Prop} (hi : ops[i]? = some oi) (hsel : ∀ (j : Nat) (o : Oper) cs b, ops[j]? = some o → o.op ≠ .select cs b) (hne : ∃ v, Y v) :
    ∀ (fuel : Nat) (listed : Array Bool) (a : Act),
      (∀ j oj, ops[j]? = some oj → j ≠ i → listed.getD j true = false → (∀ e ∈ oj.after, Region.binds md e = true → e.on ≠ i) → oi.apart ops oj = true) →
      i ∈ Region.ready md ops listed → (yields P ops C T oi a ∧ ∀ v, vals P ops C T oi a v ↔ Y v) →
      (∀ v, Y v → wpAnyS P md ops C T Q fuel (listed.setIfInBounds i true) (a.put oi.dst v)) → wpAnyS P md ops C T Q (fuel + 1) listed a := by
  intro fuel
  induction fuel with
  | zero =>
    intro listed a _ hr hy H
    refine ⟨fun h => (by rw [h] at hr; cases hr), fun j hj => ?_⟩
    by_cases hji : j = i
    · subst hji; exact (sOp_iff hi).2 ⟨hy.1, fun v hv => H v ((hy.2 v).1 hv)⟩
    · obtain ⟨v0, hv0⟩ := hne
      have := ready_mono hj hji
      rw [(H v0 hv0).1] at this
      cases this
  | succ fuel ih =>
    intro listed a hfree hr hy H
    refine ⟨fun h => (by rw [h] at hr; cases hr), fun j hj => ?_⟩
    by_cases hji : j = i
    · subst hji; exact (sOp_iff hi).2 ⟨hy.1, fun v hv => H v ((hy.2 v).1 hv)⟩
    · have h1 := fun v hv => (H v hv).2 j (ready_mono hj hji)
      obtain ⟨hjun, oj, hoj, hall⟩ := mem_ready.1 hj
      have hnot : ∀ e ∈ oj.after, Region.binds md e = true → e.on ≠ i := fun e he hb heq => by
        have h1 := hall e he hb
        have h0 := (mem_ready.1 hr).1
        rw [heq] at h1
        rcases Nat.lt_or_ge i listed.size with h' | h'
        · simp [h'] at h0 h1; rw [h0] at h1; cases h1
        · simp [Array.getElem?_eq_none h'] at h1
      have h2 := sOp_put hoj (hfree j oj hoj hji hjun hnot) (fun cs b => hsel i oi cs b hi) (fun cs b => hsel j oj cs b hoj) hne hy h1
      have hfree' : ∀ k ok, ops[k]? = some ok → k ≠ i → (listed.setIfInBounds j true).getD k true = false →
          (∀ e ∈ ok.after, Region.binds md e = true → e.on ≠ i) → oi.apart ops ok = true := fun k ok hk hki hun hno => by
        refine hfree k ok hk hki ?_ hno
        by_cases hjk : j = k
        · subst hjk; exact hjun
        · rw [getD_set_ne true hjk] at hun; exact hun
      refine sOp_mono (fun a' h3 => ih (listed.setIfInBounds j true) a' hfree' (ready_mono hr (Ne.symm hji)) h3.1 fun v hv => ?_) h2
      rw [Array.setIfInBounds_comm _ _ hji]
      exact h3.2 v hv

/-- Whoever may be carried out yields something. -/
theorem vals_ne {o : Oper} {a : Act} (hC : ∃ w, C w) (hT : ∀ f args w, Calls P f args w (fun e w'' => ∃ v, e = .returned v ∧ T f args v ∧ C w'') → ∃ v, T f args v) (h : yields P ops C T o a) : ∃ v, vals P ops C T o a v := by
  unfold vals
  by_cases hw : Region.wanted o (yielded ops a.tmps) = true
  · simp only [hw, if_true]
    obtain ⟨w, hw'⟩ := hC
    have h3 := h hw w hw'
    generalize hr : (execOp a.eval o).run P w = r at *
    cases r with
    | ok n w' =>
      cases n <;> simp only [upon] at h3
      case value u => exact ⟨u, w, w', hw', .inl hr⟩
      case skip => exact ⟨undef, w, w', hw', .inr (.inl ⟨hr, rfl⟩)⟩
      case enter f args =>
        obtain ⟨v, hv⟩ := hT f args w' h3
        exact ⟨v, w, w', hw', .inr (.inr ⟨f, args, hr, hv⟩)⟩
    | halt x w' => simp only [upon] at h3
  · simp only [hw]
    exact ⟨undef, rfl⟩

theorem calls_ne {f : FuncId} {args : Array Value} {w : World} (h : Calls P f args w (fun e w'' => ∃ v, e = .returned v ∧ T f args v ∧ C w'')) : ∃ v, T f args v := by
  obtain ⟨e, w', fr, ⟨v, _, ht, _⟩, _⟩ := h []
  exact ⟨v, ht⟩

theorem wpAnyS_lex {Q : Act → Prop} (hs : Region.noSelect ops = true) (hC : ∃ w, C w) : ∀ (l : List Oper) (k : Nat) (listed : Array Bool) (a : Act), (∀ j, l[j]? = ops[k + j]?) →
    Region.lexFrom md ops l.length k listed = true → wpSoft P ops C T Q l a → wpAnyS P md ops C T Q l.length listed a
  | [], _, _, _, _, hB, h => ⟨by simpa [Region.lexFrom] using hB, h⟩
  | o :: l, k, listed, a, hl, hB, h => by
    have h0 : ops[k]? = some o := by simpa using (hl 0).symm
    simp only [List.length_cons, Region.lexFrom, Bool.and_eq_true] at hB
    obtain ⟨⟨hr, hf⟩, hB'⟩ := hB
    have hst : sOp P ops C T k (wpSoft P ops C T Q l) a := by unfold sOp; simp only [h0]; exact h
    have hst' := (sOp_iff h0).1 hst
    exact wpAnyS_first h0 (Region.noSelect_spec hs) (vals_ne hC (fun _ _ _ => calls_ne) hst'.1) l.length listed a (Region.free_spec h0 hf) (by simpa using hr) ⟨hst'.1, fun _ => Iff.rfl⟩
      (fun v hv => wpAnyS_lex hs hC l (k + 1) _ _ (fun j => by have := hl (j + 1); simpa [Nat.add_assoc, Nat.add_comm 1 j] using this) hB' (hst'.2 v hv))

/-- One walk of the order of the text serves every order. -/
theorem wp_region_soft {id : Nat} {Q : Exit → Act → World → Prop} {a : Act} {w : World} (hm : P.follows .mixedOrders = true) (hB : Region.lexB .any ops = true) (hC : C { w with drawn := w.drawn + 1 })
    (h : wpSoft P ops C T (fun a' => ∀ w', C w' → Q .normal a' w') ops.toList a) : (Code.region id ops true).wp P Q a w := by
  simp only [Region.lexB, Bool.and_eq_true] at hB
  refine wp_region_any hm (wpAny_of_soft (T := T) (Q := fun a' => ∀ w', C w' → Q .normal a' w') (fun _ w' hw' h => h w' hw') _ _ _ _ hC ?_)
  have := wpAnyS_lex (C := C) (T := T) (md := .any) hB.1 ⟨_, hC⟩ ops.toList 0 (Array.replicate ops.size false) a (by simp) (by simpa using hB.2) h
  simpa using this

/-- The class: the memory is as it was. -/
abbrev after (w : World) : World → Prop := fun w' => ∃ n, w' = w.drewN n

theorem region {id : Nat} {Q : Exit → Act → World → Prop} {a : Act} {w : World} {l : List Oper} (T : FuncId → Array Value → Value → Prop) (hm : P.follows .mixedOrders = true) (hB : Region.lexB .any l.toArray = true)
    (h : wpSoft P l.toArray (after w) T (fun a' => ∀ n, Q .normal a' (w.drewN n)) l a) : (Code.region id l.toArray true).wp P Q a w := by
  refine wp_region_soft (C := after w) (T := T) hm hB ⟨1, rfl⟩ ?_
  have mono : ∀ (l' : List Oper) (a : Act), wpSoft P l.toArray (after w) T (fun a' => ∀ n, Q .normal a' (w.drewN n)) l' a → wpSoft P l.toArray (after w) T (fun a' => ∀ w', after w w' → Q .normal a' w') l' a := by
    intro l'
    induction l' with
    | nil => intro a h w' ⟨n, hn⟩; subst hn; exact h n
    | cons o l' ih =>
      intro a h
      unfold wpSoft at h ⊢
      split
      · rename_i hw; rw [if_pos hw] at h; exact soft_mono (fun a' => ih a') h
      · rename_i hw; rw [if_neg hw] at h; exact ih _ h
  exact mono _ _ (by simpa using h)

/-! ### Steps of the walk -/
section steps
variable {Q : Act → Prop} {a : Act} {w : World} {rest : List Oper} {o : Oper}

/-- What is asked of one operation whose run in the worlds of the class is told, and of what follows it. -/
def stepOf (P : Program) (w : World) (T : FuncId → Array Value → Value → Prop) (r : Nat → Result Next) (K : Value → Prop) : Prop :=
  (∀ n, upon P (after w) T (r n)) ∧ ∀ v n, (∃ w', r n = .ok (.value v) w' ∨ (r n = .ok .skip w' ∧ v = undef) ∨ ∃ f args, r n = .ok (.enter f args) w' ∧ T f args v) → K v

@[go_sem] theorem stepOf_value (v : Nat → Value) (d : Nat → Nat) (K : Value → Prop) : stepOf P w T (fun n => .ok (.value (v n)) (w.drewN (d n))) K ↔ ∀ n, K (v n) := by
  unfold stepOf
  constructor
  · rintro ⟨_, h⟩ n
    exact h _ n ⟨_, .inl rfl⟩
  · intro h
    refine ⟨fun n => ⟨d n, rfl⟩, fun u n ⟨w', h1⟩ => ?_⟩
    rcases h1 with h1 | ⟨h1, _⟩ | ⟨f, args, h1, _⟩
    · cases h1; exact h n
    · cases h1
    · cases h1

@[go_sem] theorem stepOf_enter (f : FuncId) (args : Array Value) (d : Nat → Nat) (K : Value → Prop) : stepOf P w T (fun n => .ok (.enter f args) (w.drewN (d n))) K ↔
    (∀ n, Calls P f args (w.drewN (d n)) (fun e w'' => ∃ v, e = .returned v ∧ T f args v ∧ ∃ m, w'' = w.drewN m)) ∧ ∀ v, T f args v → K v := by
  unfold stepOf
  constructor
  · rintro ⟨h1, h2⟩
    exact ⟨h1, fun v hv => h2 v 0 ⟨_, .inr (.inr ⟨f, args, rfl, hv⟩)⟩⟩
  · rintro ⟨h1, h2⟩
    refine ⟨h1, fun u n ⟨w', h3⟩ => ?_⟩
    rcases h3 with h3 | ⟨h3, _⟩ | ⟨f', args', h3, ht⟩
    · cases h3
    · cases h3
    · cases h3; exact h2 _ ht

theorem step_k (h : ∀ K : Act → Prop, (∀ a, wpSoft P ops (after w) T Q rest a → K a) →
    if Region.wanted o (yielded ops a.tmps) then stepOf P w T (fun n => (execOp a.eval o).run P (w.drewN n)) (fun v => K (a.put o.dst v)) else K (a.put o.dst undef)) :
    wpSoft P ops (after w) T Q (o :: rest) a := by
  have h' := h _ (fun _ q => q)
  unfold wpSoft
  split
  · rename_i hw
    rw [if_pos hw] at h'
    refine ⟨fun w' ⟨n, hn⟩ => by subst hn; exact h'.1 n, fun v ⟨w1, w2, ⟨n, hn⟩, h1⟩ => ?_⟩
    subst hn
    exact h'.2 v n ⟨w2, h1⟩
  · rename_i hw
    rw [if_neg hw] at h'
    exact h'
end steps
end
end Go.Proofs.YtcaceplnlfmejaaGreatDoor.Soft
