/- ScaleProfile: the classes of the products, and the reference (printed by gscale.py; the region's walk by the kit's regions.py). -/
import Derived.Test.YtdkgdinbglkjcaaWk22
import Derived.Test.YtdkgdinbglkjcaaWLast
namespace Go.Proofs.Ytdkgdinbglkjcaa
open Fl Go.RowKit YtdkgdinbglkjcaaW.PrintLast

/-- The class of a product. -/
def pr (x s : Nat) : Option Nat := cop .mul .f32 (cls .f32 x) (cls .f32 s)
theorem pr_cls (x s : Nat) : cls .f32 ((pr x s).getD 2143289344) = pr x s := by
  cases h : pr x s with
  | none => decide
  | some b =>
    unfold pr cop at h
    cases hx : cls .f32 x with
    | none => rw [hx] at h; cases h
    | some x' =>
      cases hs : cls .f32 s with
      | none => rw [hx, hs] at h; cases h
      | some s' =>
        rw [hx, hs] at h
        simp only [Option.bind_some] at h
        exact cls_some (floatBits_nan h).2.2
/-- The products of n numbers. -/
def prW (X : List Nat) (s n : Nat) : List Nat := (List.range n).map fun k => (pr (X.getD k 0) s).getD 2143289344
theorem prW_len (X : List Nat) (s n : Nat) : (prW X s n).length = n := by simp [prW]
theorem prW_get (X : List Nat) (s : Nat) {n k : Nat} (h : k < n) : (prW X s n).getD k 0 = (pr (X.getD k 0) s).getD 2143289344 := by
  rw [getD_lt (by rw [prW_len]; exact h)]
  simp [prW]
/-- k numbers that are the products, up to not-a-numbers' bits. -/
def CLs (xs X : List Nat) (s k : Nat) : Prop := xs.length = k ∧ ∀ i, i < k → cls .f32 (xs.getD i 0) = pr (X.getD i 0) s
theorem CLs.nil (X : List Nat) (s : Nat) : CLs [] X s 0 := ⟨rfl, fun _ h => absurd h (Nat.not_lt_zero _)⟩
theorem CLs.step {xs X : List Nat} {s k r : Nat} (h : CLs xs X s k) (hr : cls .f32 r = pr (X.getD k 0) s) : CLs (xs ++ [r]) X s (k + 1) := by
  refine ⟨by rw [List.length_append, h.1]; rfl, fun i hi => ?_⟩
  have hl := h.1
  rcases Nat.lt_or_ge i k with q | q
  · rw [getD_lt (by rw [List.length_append]; simp; omega), List.getElem_append_left (by omega), ← getD_lt (by omega)]
    exact h.2 i q
  · obtain rfl : i = k := by omega
    rw [getD_lt (by rw [List.length_append]; simp; omega), List.getElem_append_right (by omega)]
    simpa [hl] using hr
theorem kind_cls {a b : Nat} (h : cls .f32 a = cls .f32 b) : notFin a = notFin b ∧ notLeast a = notLeast b := by
  have hn : ∀ x, nan FloatKind.f32.format x = true → finb FloatKind.f32.format x = false := fun x hx => by
    cases hf : finb FloatKind.f32.format x
    · rfl
    · rw [not_nan_of_fin (finb_iff.1 hf)] at hx; cases hx
  unfold cls at h
  cases ha : nan FloatKind.f32.format a <;> cases hb : nan FloatKind.f32.format b <;> rw [ha, hb] at h <;> simp at h
  · subst h; exact ⟨rfl, rfl⟩
  · unfold notFin notLeast
    rw [hn a ha, hn b hb]
    exact ⟨rfl, rfl⟩
theorem valid_cls {A xs ys X Y : List Nat} {s t : Nat} (hx : CLs xs X s A.length) (hy : CLs ys Y t A.length) : validB A xs ys = validB A (prW X s A.length) (prW Y t A.length) := by
  have hk : ∀ k, k < A.length → okK A xs ys k = okK A (prW X s A.length) (prW Y t A.length) k := fun k hk => by
    unfold okK
    rw [(kind_cls (a := xs.getD k 0) (b := (prW X s A.length).getD k 0) (by rw [hx.2 k hk, prW_get X s hk, pr_cls])).1, (kind_cls (a := ys.getD k 0) (b := (prW Y t A.length).getD k 0) (by rw [hy.2 k hk, prW_get Y t hk, pr_cls])).2]
  unfold validB
  rw [show sizesB A xs ys = sizesB A (prW X s A.length) (prW Y t A.length) by unfold sizesB; rw [hx.1, hy.1, prW_len, prW_len]]
  congr 1
  rw [Bool.eq_iff_iff, List.all_eq_true, List.all_eq_true]
  exact ⟨fun h _ hm => by rw [← hk _ (List.mem_range.1 hm)]; exact h _ hm, fun h _ hm => by rw [hk _ (List.mem_range.1 hm)]; exact h _ hm⟩
theorem fin_prW {xs X : List Nat} {s n : Nat} (hx : CLs xs X s n) (hf : ∀ k, k < n → notFin (xs.getD k 0) = false) : xs = prW X s n := by
  apply List.ext_getElem (by rw [hx.1, prW_len])
  intro k h1 h2
  have hk : k < n := by rw [← hx.1]; exact h1
  have e := hx.2 k hk
  have f := hf k hk
  rw [← getD_lt h1, ← getD_lt h2, prW_get X s hk, ← e]
  unfold notFin at f
  rw [cls_fin (finb_iff.1 (by simpa using f))]
  rfl
theorem least_fin {x : Nat} (h : notLeast x = false) : notFin x = false := by
  unfold notLeast at h
  unfold notFin
  simp only [Bool.not_eq_false', Bool.and_eq_true] at h
  rw [h.1]; rfl
theorem valid_prW {A xs ys X Y : List Nat} {s t : Nat} (hx : CLs xs X s A.length) (hy : CLs ys Y t A.length) (hv : validB A xs ys = true) : xs = prW X s A.length ∧ ys = prW Y t A.length :=
  ⟨fin_prW hx fun _ hk => okK_lift (valid_ok hv hk), fin_prW hy fun _ hk => least_fin (okK_drag (valid_ok hv hk))⟩
def scaleOk (A L D : List Nat) (x y : Nat) : Bool := validB A L D && validB A (prW L x A.length) (prW D y A.length)
def ScaleT (A L D : List Nat) (x y : Nat) : World → Ending → World → Prop := RetT (outL (scaleOk A L D x y) A) (outL (scaleOk A L D x y) (prW L x A.length)) (outL (scaleOk A L D x y) (prW D y A.length)) (scaleOk A L D x y)
theorem scaleT_of {A L D xs ys : List Nat} {x y : Nat} {b : Bool} {w w' : World} {e : Ending} (hv : validB A L D = true) (hx : CLs xs L x A.length) (hy : CLs ys D y A.length) (hb : validB A xs ys = b) (h : RetT (outL b A) (outL b xs) (outL b ys) b w e w') : ScaleT A L D x y w e w' := by
  have ho : scaleOk A L D x y = b := by unfold scaleOk; rw [hv, ← valid_cls hx hy, hb]; rfl
  unfold ScaleT
  rw [ho]
  cases b
  · exact h
  · obtain ⟨e1, e2⟩ := valid_prW hx hy hb
    rw [← e1, ← e2]
    exact h

set_option maxRecDepth 8000 in
set_option maxHeartbeats 1600000 in
theorem spec_ScaleProfile (w : World) (v : Value) (A L D : List Nat) (x y : Nat) (h : PS w v A L D) : Calls Try.prog 53 #[v, .float .f32 x, .float .f32 y] w (ScaleT A L D x y w) := by
  obtain ⟨a1, a2, a3, l1, l2, l3, d1, d2, d3, rfl, fa, fl, fd⟩ := h.shape
  obtain ⟨rfl, ma, CA⟩ := fa.at
  obtain ⟨rfl, ml, CL⟩ := fl.at
  obtain ⟨rfl, md, CD⟩ := fd.at
  obtain ⟨k1, k2, hb, hz⟩ := box2 w #[Value.slice a1 A.length a3, Value.slice l1 L.length l3, Value.slice d1 D.length d3] #[Value.slice none 0 0, Value.slice none 0 0, Value.slice none 0 0] 36 36
  obtain ⟨wb, hwb⟩ : ∃ wb, wb = ((w.alloc (Obj.cells #[Value.slice a1 A.length a3, Value.slice l1 L.length l3, Value.slice d1 D.length d3] 36)).alloc (Obj.cells #[Value.slice none 0 0, Value.slice none 0 0, Value.slice none 0 0] 36)) := ⟨_, rfl⟩
  rw [← hwb] at k1 k2 hb hz
  have FA := Lib.hid (fa.later hb); have FL := Lib.hid (fl.later hb); have FD := Lib.hid (fd.later hb); have K1 := Lib.hid k1; have K2 := Lib.hid k2; have HB := Lib.hid hb; have HZ := Lib.hid hz
  clear fa fl fd h k1 k2 hb hz ma ml md
  cases hv : validB A L D
  · have HV := Lib.hid hv
    have HR : Hid (∀ w', Below w.heap.size w w' → ScaleT A L D x y w (.returned (.tuple #[.agg #[.slice none 0 0, .slice none 0 0, .slice none 0 0], .bool false])) w') := Lib.hid fun w' hb => by
      have h0 : scaleOk A L D x y = false := (by unfold scaleOk; rw [hv]; rfl)
      exact retT_no h0 hb
    clear hv CA CL CD
    go_enter Try.func53, Try.ntmps53
    go_wp2_with fail
    rw [← hwb]
    clear hwb
    refine (spec_l02Is _ _ _ _ _ A L D K1.out FA.out FL.out FD.out).mono ?_
    rintro e w1 ⟨rfl, n1, hw1⟩
    rw [HV.out]
    replace K1 : Hid (Blk w1 _ _ _) := Lib.hid (by rw [hw1]; exact K1.out)
    replace K2 : Hid (Blk w1 _ _ _) := Lib.hid (by rw [hw1]; exact K2.out)
    replace HB : Hid (Below w.heap.size w w1) := Lib.hid (by rw [hw1]; exact below_dn HB.out _)
    clear hw1 FA FL FD K1
    obtain ⟨⟨r0, r1, r2⟩, f0, f1, f2⟩ := cells3 K2.out
    go_wp2
    have KF := Lib.hid (set3_blk K2.out (Value.slice none 0 0) (Value.slice none 0 0) (Value.slice none 0 0))
    obtain ⟨⟨q0, q1, q2⟩, _⟩ := cells3 KF.out
    unfold set3 at q0 q1 q2
    refine bodyPost_ret (v := .tuple #[.agg #[Value.slice none 0 0, Value.slice none 0 0, Value.slice none 0 0], .bool false]) (by simp [results, Try.results53, go_sem, q0, q1, q2]) rfl ?_
    exact HR.out _ (set3_below HB.out (by omega) _ _ _)
  · have HV := Lib.hid hv
    obtain ⟨s1, s2, s3, s4⟩ := sizes_spec (valid_sizes hv)
    have HE := Lib.hid hv
    have H1 := Lib.hid s1; have H2 := Lib.hid s2; have H3 := Lib.hid s3; have H4 := Lib.hid s4
    clear hv s1 s2 s3 s4
    go_enter Try.func53, Try.ntmps53
    go_wp2_with fail
    rw [← hwb]
    clear hwb
    refine (spec_l02Is _ _ _ _ _ A L D K1.out FA.out FL.out FD.out).mono ?_
    rintro e w1 ⟨rfl, n1, hw1⟩
    rw [HV.out]
    replace K1 : Hid (Blk w1 _ _ _) := Lib.hid (by rw [hw1]; exact K1.out)
    replace K2 : Hid (Blk w1 _ _ _) := Lib.hid (by rw [hw1]; exact K2.out)
    replace HB : Hid (Below w.heap.size w w1) := Lib.hid (by rw [hw1]; exact below_dn HB.out _)
    have HS1 : Hid (w.heap.size + 2 ≤ w1.heap.size) := Lib.hid (by rw [hw1]; have := HZ.out; simp; omega)
    clear hw1 FA FL FD HZ
    go_wp2_with fail
    refine (spec_l02New _).mono ?_
    rintro e w2 ⟨va, vl, vd, rfl, ho, hb⟩
    obtain ⟨x1, y1, z1, rfl⟩ := own_shape ho.oa
    obtain ⟨x2, y2, z2, rfl⟩ := own_shape ho.ol
    obtain ⟨x3, y3, z3, rfl⟩ := own_shape ho.od
    have hs := hb.size
    have B2 := Lib.hid hb
    have O2 := Lib.hid ho
    clear ho hb
    go_wp2_with fail
    obtain ⟨w3, hw3⟩ : ∃ w3, w3 = w2.alloc (Obj.cells #[Value.slice x1 y1 z1, Value.slice x2 y2 z2, Value.slice x3 y3 z3] 36) := ⟨_, rfl⟩
    rw [← hw3]
    have S0 : Hid (St w3 w2.heap.size w1.heap.size (Value.slice x1 y1 z1) (Value.slice x2 y2 z2) (Value.slice x3 y3 z3) (A.take 0) [] []) := Lib.hid (by rw [hw3]; exact (O2.out.later ((Below.refl _ _).alloc (Nat.le_refl _) _)).St hs (Blk.new _ _ _))
    have B3 : Hid (Below w1.heap.size w1 w3 ∧ w1.heap.size ≤ w3.heap.size) := Lib.hid (by rw [hw3]; exact ⟨B2.out.alloc hs _, by simp; omega⟩)
    have HS2 := Lib.hid hs
    clear hw3 O2 B2 hs
    generalize w2.heap.size = ob at *
    go_loopw [9] (fun i wr => ∃ (k : Nat) (a l d : Value) (xs ys : List Nat), k ≤ A.length ∧ i = .int .i64 k ∧ St wr ob w1.heap.size a l d (A.take k) xs ys ∧ Below w1.heap.size w1 wr ∧ w1.heap.size ≤ wr.heap.size ∧ CLs xs L x k ∧ CLs ys D y k) (fun i _ => A.length - (intOf i).toNat)
    case atStart => exact ⟨0, _, _, _, [], [], Nat.zero_le _, rfl, S0.out, B3.out.1, B3.out.2, CLs.nil _ _, CLs.nil _ _⟩
    case round =>
      obtain ⟨k, va, vl, vd, xs, ys, hk, rfl, hst, hbr, hsz, hxs, hys⟩ := hrel
      have HXS := Lib.hid hxs; have HYS := Lib.hid hys
      clear hxs hys
      have HST := Lib.hid hst; have HBR := Lib.hid hbr; have HSZ := Lib.hid hsz
      have HBT : Hid (Below w.heap.size w wr) := Lib.hid (HB.out.trans (hbr.mono (by have := HS1.out; omega)))
      have KP : Hid (Blk wr w.heap.size #[Value.slice a1 A.length a3, Value.slice l1 L.length l3, Value.slice d1 D.length d3] 36) := Lib.hid (K1.out.keep hbr (by have := HS1.out; omega))
      have KR : Hid (Blk wr (w.heap.size + 1) #[Value.slice none 0 0, Value.slice none 0 0, Value.slice none 0 0] 36) := Lib.hid (K2.out.keep hbr (by have := HS1.out; omega))
      clear hst hbr hsz S0 B3
      by_cases hlt : k < A.length
      · obtain ⟨ba, oa, rfl, hba, hA⟩ := CA.out k hlt
        obtain ⟨bl, ol, rfl, hbl, hL⟩ := CL.out k (by have := H3.out; omega)
        obtain ⟨bd, od, rfl, hbd, hD⟩ := CD.out k (by have := H4.out; omega)
        obtain ⟨⟨k0, k1, k2⟩, _⟩ := cells3 KP.out
        have hA' : wr.cell? ⟨ba, oa + k, none⟩ = some (.float .f32 (A.getD k 0)) := (HBT.out.cell (p := ⟨ba, oa + k, none⟩) hba).trans hA
        have hL' : wr.cell? ⟨bl, ol + k, none⟩ = some (.float .f32 (L.getD k 0)) := (HBT.out.cell (p := ⟨bl, ol + k, none⟩) hbl).trans hL
        have hD' : wr.cell? ⟨bd, od + k, none⟩ = some (.float .f32 (D.getD k 0)) := (HBT.out.cell (p := ⟨bd, od + k, none⟩) hbd).trans hD
        have GA := Lib.hid (And.intro hba hA); have GL := Lib.hid (And.intro hbl hL); have GD := Lib.hid (And.intro hbd hD)
        clear hA hL hD hba hbl hbd
        have q4 : (A.length : Int) ≤ 24 := by have := H2.out; omega
        have q0 : (k : Int) < A.length := by omega
        have q1 : (k : Int) < L.length := by have := H3.out; omega
        have q2 : (k : Int) < D.length := by have := H4.out; omega
        have q3 : (0 : Int) ≤ (k : Int) := by omega
        have HTA : Hid (A.take (k + 1) = A.take k ++ [A.getD k 0]) := Lib.hid (by rw [List.take_add_one, List.getElem?_eq_getElem (by omega), getD_lt (by omega)]; rfl)
        have SX := Lib.hid (fun r (h : cls .f32 r = pr (L.getD k 0) x) => HXS.out.step h)
        have SYY := Lib.hid (fun r (h : cls .f32 r = pr (D.getD k 0) y) => HYS.out.step h)
        have NL : Hid ((A.take k).length ≤ 1000 ∧ xs.length ≤ 1000 ∧ ys.length ≤ 1000) := Lib.hid (by have := H2.out; rw [HXS.out.1, HYS.out.1, List.length_take]; omega)
        generalize A.getD k 0 = za at *
        generalize L.getD k 0 = zl at *
        generalize D.getD k 0 = zd at *
        go_wp2_with fail
        have hS0 : wr.drew.cell? ⟨w.heap.size, 0, none⟩ = some (Value.slice (some ⟨ba, oa, none⟩) A.length a3) ∧ wr.drew.cell? ⟨w.heap.size, 1, none⟩ = some (Value.slice (some ⟨bl, ol, none⟩) L.length l3) ∧ wr.drew.cell? ⟨w.heap.size, 2, none⟩ = some (Value.slice (some ⟨bd, od, none⟩) D.length d3) ∧ wr.drew.cell? ⟨ba, oa + k, none⟩ = some (Value.float FloatKind.f32 za) ∧ wr.drew.cell? ⟨bl, ol + k, none⟩ = some (Value.float FloatKind.f32 zl) ∧ wr.drew.cell? ⟨bd, od + k, none⟩ = some (Value.float FloatKind.f32 zd) := ⟨k0, k1, k2, hA', hL', hD'⟩
        clear k0 k1 k2 hA' hL' hD'
        have HS0 := HST; have HB0 := HBR; have HZ0 := HSZ
        clear HST HBR HSZ
        refine start_ (n := 20) (S := fun w' => w'.cell? ⟨w.heap.size, 0, none⟩ = some (Value.slice (some ⟨ba, oa, none⟩) A.length a3) ∧ w'.cell? ⟨w.heap.size, 1, none⟩ = some (Value.slice (some ⟨bl, ol, none⟩) L.length l3) ∧ w'.cell? ⟨w.heap.size, 2, none⟩ = some (Value.slice (some ⟨bd, od, none⟩) D.length d3) ∧ w'.cell? ⟨ba, oa + k, none⟩ = some (Value.float FloatKind.f32 za) ∧ w'.cell? ⟨bl, ol + k, none⟩ = some (Value.float FloatKind.f32 zl) ∧ w'.cell? ⟨bd, od + k, none⟩ = some (Value.float FloatKind.f32 zd)) (ds := [19]) #[false, false, false, false, false, false, false, false, false, false, false, false, false, false, false, false, false, false, false, false] (by kernel_rfl) rfl rfl ⟨hS0.1, hS0.2.1, hS0.2.2.1, hS0.2.2.2.1, hS0.2.2.2.2.1, hS0.2.2.2.2.2⟩ (fun hHeld => ?_)
        refine pure_ (i := 0) (N := some 21) (v := ?_) (a' := ?_) #[true, false, false, false, false, false, false, false, false, false, false, false, false, false, false, false, false, false, false, false] rfl rfl (by kernel_rfl) (fun _ _ _ h => h) (Or.inl ⟨by rfl, ?_⟩) ?_ ?_
        rotate_left
        · intro w'
          go_simp
          with_reducible rfl
        rotate_left
        · simp only [Act.put, List.setIfInBounds_toArray, List.set_cons_zero, List.set_cons_succ]
          rfl
        refine pure_ (i := 2) (N := some 23) (v := ?_) (a' := ?_) #[true, false, true, false, false, false, false, false, false, false, false, false, false, false, false, false, false, false, false, false] rfl rfl (by kernel_rfl) (fun _ _ _ h => h) (Or.inl ⟨by rfl, ?_⟩) ?_ ?_
        rotate_left
        · intro w'
          go_simp
          with_reducible rfl
        rotate_left
        · simp only [Act.put, List.setIfInBounds_toArray, List.set_cons_zero, List.set_cons_succ]
          rfl
        refine pure_ (i := 5) (N := some 26) (v := ?_) (a' := ?_) #[true, false, true, false, false, true, false, false, false, false, false, false, false, false, false, false, false, false, false, false] rfl rfl (by kernel_rfl) (fun _ _ _ h => h) (Or.inl ⟨by rfl, ?_⟩) ?_ ?_
        rotate_left
        · intro w'
          go_simp
          with_reducible rfl
        rotate_left
        · simp only [Act.put, List.setIfInBounds_toArray, List.set_cons_zero, List.set_cons_succ]
          rfl
        refine pure_ (i := 7) (N := some 28) (v := ?_) (a' := ?_) #[true, false, true, false, false, true, false, true, false, false, false, false, false, false, false, false, false, false, false, false] rfl rfl (by kernel_rfl) (fun _ _ _ h => h) (Or.inl ⟨by rfl, ?_⟩) ?_ ?_
        rotate_left
        · intro w'
          go_simp
          with_reducible rfl
        rotate_left
        · simp only [Act.put, List.setIfInBounds_toArray, List.set_cons_zero, List.set_cons_succ]
          rfl
        refine pure_ (i := 10) (N := some 31) (v := ?_) (a' := ?_) #[true, false, true, false, false, true, false, true, false, false, true, false, false, false, false, false, false, false, false, false] rfl rfl (by kernel_rfl) (fun _ _ _ h => h) (Or.inl ⟨by rfl, ?_⟩) ?_ ?_
        rotate_left
        · intro w'
          go_simp
          with_reducible rfl
        rotate_left
        · simp only [Act.put, List.setIfInBounds_toArray, List.set_cons_zero, List.set_cons_succ]
          rfl
        refine pure_ (i := 12) (N := some 33) (v := ?_) (a' := ?_) #[true, false, true, false, false, true, false, true, false, false, true, false, true, false, false, false, false, false, false, false] rfl rfl (by kernel_rfl) (fun _ _ _ h => h) (Or.inl ⟨by rfl, ?_⟩) ?_ ?_
        rotate_left
        · intro w'
          go_simp
          with_reducible rfl
        rotate_left
        · simp only [Act.put, List.setIfInBounds_toArray, List.set_cons_zero, List.set_cons_succ]
          rfl
        refine pure_ (i := 14) (N := some 35) (v := ?_) (a' := ?_) #[true, false, true, false, false, true, false, true, false, false, true, false, true, false, true, false, false, false, false, false] rfl rfl (by kernel_rfl) (fun _ _ _ h => h) (Or.inl ⟨by rfl, ?_⟩) ?_ ?_
        rotate_left
        · intro w'
          go_simp
          with_reducible rfl
        rotate_left
        · simp only [Act.put, List.setIfInBounds_toArray, List.set_cons_zero, List.set_cons_succ]
          rfl
        refine pure_ (i := 17) (N := some 38) (v := ?_) (a' := ?_) #[true, false, true, false, false, true, false, true, false, false, true, false, true, false, true, false, false, true, false, false] rfl rfl (by kernel_rfl) (fun _ _ _ h => h) (Or.inl ⟨by rfl, ?_⟩) ?_ ?_
        rotate_left
        · intro w'
          go_simp
          with_reducible rfl
        rotate_left
        · simp only [Act.put, List.setIfInBounds_toArray, List.set_cons_zero, List.set_cons_succ]
          rfl
        refine take_ (i := 1) (N := some 22) (v := ?_) (a' := ?_) #[true, true, true, false, false, true, false, true, false, false, true, false, true, false, true, false, false, true, false, false] rfl rfl (by kernel_rfl) (fun _ _ _ h => h) (Or.inl ⟨by rfl, ?_⟩) hHeld ?_ ?_
        rotate_left
        · rintro w' ⟨s0, s1, s2, s3, s4, s5⟩
          go_simp
          with_reducible rfl
        rotate_left
        · simp only [Act.put, List.setIfInBounds_toArray, List.set_cons_zero, List.set_cons_succ]
          rfl
        refine pure_ (i := 3) (N := some 24) (v := ?_) (a' := ?_) #[true, true, true, true, false, true, false, true, false, false, true, false, true, false, true, false, false, true, false, false] rfl rfl (by kernel_rfl) (fun _ _ _ h => h) (Or.inl ⟨by rfl, ?_⟩) ?_ ?_
        rotate_left
        · intro w'
          go_simp
          with_reducible rfl
        rotate_left
        · simp only [Act.put, List.setIfInBounds_toArray, List.set_cons_zero, List.set_cons_succ]
          rfl
        refine take_ (i := 4) (N := some 25) (v := ?_) (a' := ?_) #[true, true, true, true, true, true, false, true, false, false, true, false, true, false, true, false, false, true, false, false] rfl rfl (by kernel_rfl) (fun _ _ _ h => h) (Or.inl ⟨by rfl, ?_⟩) hHeld ?_ ?_
        rotate_left
        · rintro w' ⟨s0, s1, s2, s3, s4, s5⟩
          go_simp
          with_reducible rfl
        rotate_left
        · simp only [Act.put, List.setIfInBounds_toArray, List.set_cons_zero, List.set_cons_succ]
          rfl
        refine take_ (i := 6) (N := some 27) (v := ?_) (a' := ?_) #[true, true, true, true, true, true, true, true, false, false, true, false, true, false, true, false, false, true, false, false] rfl rfl (by kernel_rfl) (fun _ _ _ h => h) (Or.inl ⟨by rfl, ?_⟩) hHeld ?_ ?_
        rotate_left
        · rintro w' ⟨s0, s1, s2, s3, s4, s5⟩
          go_simp
          with_reducible rfl
        rotate_left
        · simp only [Act.put, List.setIfInBounds_toArray, List.set_cons_zero, List.set_cons_succ]
          rfl
        refine pure_ (i := 8) (N := some 29) (v := ?_) (a' := ?_) #[true, true, true, true, true, true, true, true, true, false, true, false, true, false, true, false, false, true, false, false] rfl rfl (by kernel_rfl) (fun _ _ _ h => h) (Or.inl ⟨by rfl, ?_⟩) ?_ ?_
        rotate_left
        · intro w'
          go_simp
          with_reducible rfl
        rotate_left
        · simp only [Act.put, List.setIfInBounds_toArray, List.set_cons_zero, List.set_cons_succ]
          rfl
        refine take_ (i := 9) (N := some 30) (v := ?_) (a' := ?_) #[true, true, true, true, true, true, true, true, true, true, true, false, true, false, true, false, false, true, false, false] rfl rfl (by kernel_rfl) (fun _ _ _ h => h) (Or.inl ⟨by rfl, ?_⟩) hHeld ?_ ?_
        rotate_left
        · rintro w' ⟨s0, s1, s2, s3, s4, s5⟩
          go_simp
          with_reducible rfl
        rotate_left
        · simp only [Act.put, List.setIfInBounds_toArray, List.set_cons_zero, List.set_cons_succ]
          rfl
        refine take_ (i := 13) (N := some 34) (v := ?_) (a' := ?_) #[true, true, true, true, true, true, true, true, true, true, true, false, true, true, true, false, false, true, false, false] rfl rfl (by kernel_rfl) (fun _ _ _ h => h) (Or.inl ⟨by rfl, ?_⟩) hHeld ?_ ?_
        rotate_left
        · rintro w' ⟨s0, s1, s2, s3, s4, s5⟩
          go_simp
          with_reducible rfl
        rotate_left
        · simp only [Act.put, List.setIfInBounds_toArray, List.set_cons_zero, List.set_cons_succ]
          rfl
        refine pure_ (i := 15) (N := some 36) (v := ?_) (a' := ?_) #[true, true, true, true, true, true, true, true, true, true, true, false, true, true, true, true, false, true, false, false] rfl rfl (by kernel_rfl) (fun _ _ _ h => h) (Or.inl ⟨by rfl, ?_⟩) ?_ ?_
        rotate_left
        · intro w'
          go_simp
          with_reducible rfl
        rotate_left
        · simp only [Act.put, List.setIfInBounds_toArray, List.set_cons_zero, List.set_cons_succ]
          rfl
        refine take_ (i := 16) (N := some 37) (v := ?_) (a' := ?_) #[true, true, true, true, true, true, true, true, true, true, true, false, true, true, true, true, true, true, false, false] rfl rfl (by kernel_rfl) (fun _ _ _ h => h) (Or.inl ⟨by rfl, ?_⟩) hHeld ?_ ?_
        rotate_left
        · rintro w' ⟨s0, s1, s2, s3, s4, s5⟩
          go_simp
          with_reducible rfl
        rotate_left
        · simp only [Act.put, List.setIfInBounds_toArray, List.set_cons_zero, List.set_cons_succ]
          rfl
        refine join_ (σ := Nat × Nat) 1 #[true, true, true, true, true, true, true, true, true, true, true, true, true, true, true, true, true, true, true, false] (fun s => [(32, .float .f32 s.1), (39, .float .f32 s.2)]) (fun s w' => cls .f32 s.1 = pr zl x ∧ cls .f32 s.2 = pr zd y ∧ ∃ n, w' = wr.drewN n) ?_ ?_
        rotate_left
        · intro hCont
          refine two_ (i := 11) (j := 18) (Ni := some 32) (Nj := some 39) #[true, true, true, true, true, true, true, true, true, true, true, true, true, true, true, true, true, true, false, false] #[true, true, true, true, true, true, true, true, true, true, true, false, true, true, true, true, true, true, true, false] rfl rfl rfl rfl (by kernel_rfl) (by decide) (by decide) (fun K hK => ?_) (fun K hK => ?_)
          · skip
            refine value_ (w1 := ?_) (v := ?_) (by rfl) rfl ?_ ?_
            rotate_left 2
            · go_simp
              constructor
              · rfl
              · rfl
            refine hK.out _ _ ⟨hHeld.1, hHeld.2.1, hHeld.2.2.1, hHeld.2.2.2.1, hHeld.2.2.2.2.1, hHeld.2.2.2.2.2⟩ (fun hHeld => ?_)
            clear hK K
            refine norm_ (a' := ?_) ?_ ?_
            rotate_left
            · show Act.put _ (some 32) _ = _
              simp only [Act.put, List.setIfInBounds_toArray, List.set_cons_zero, List.set_cons_succ]
              rfl
            refine one_ (i := 18) (N := some 39) #[true, true, true, true, true, true, true, true, true, true, true, true, true, true, true, true, true, true, true, false] rfl rfl (by kernel_rfl) (by decide) (fun K hK => ?_)
            refine value_ (w1 := ?_) (v := ?_) (by rfl) rfl ?_ ?_
            rotate_left 2
            · go_simp
              constructor
              · rfl
              · rfl
            refine hK.out _ _ ⟨hHeld.1, hHeld.2.1, hHeld.2.2.1, hHeld.2.2.2.1, hHeld.2.2.2.2.1, hHeld.2.2.2.2.2⟩ (fun hHeld => ?_)
            clear hK K
            refine norm_ (a' := ?_) ?_ ?_
            rotate_left
            · show Act.put _ (some 39) _ = _
              simp only [Act.put, List.setIfInBounds_toArray, List.set_cons_zero, List.set_cons_succ]
              rfl
            exact norm_ (by first | (simp only [putAll, Act.put, List.setIfInBounds_toArray, List.set_cons_zero, List.set_cons_succ]; done) | (simp only [putAll, Act.put, List.setIfInBounds_toArray, List.set_cons_zero, List.set_cons_succ]; rfl)) (hCont ⟨fa .mul .f32 zl x (wr.drewN 1), fa .mul .f32 zd y (wr.drewN (1 + fd .mul .f32 zl x))⟩ _ ⟨cls_fa _ _ _ _ _, cls_fa _ _ _ _ _, _, rfl⟩)
          · skip
            refine value_ (w1 := ?_) (v := ?_) (by rfl) rfl ?_ ?_
            rotate_left 2
            · go_simp
              constructor
              · rfl
              · rfl
            refine hK.out _ _ ⟨hHeld.1, hHeld.2.1, hHeld.2.2.1, hHeld.2.2.2.1, hHeld.2.2.2.2.1, hHeld.2.2.2.2.2⟩ (fun hHeld => ?_)
            clear hK K
            refine norm_ (a' := ?_) ?_ ?_
            rotate_left
            · show Act.put _ (some 39) _ = _
              simp only [Act.put, List.setIfInBounds_toArray, List.set_cons_zero, List.set_cons_succ]
              rfl
            refine one_ (i := 11) (N := some 32) #[true, true, true, true, true, true, true, true, true, true, true, true, true, true, true, true, true, true, true, false] rfl rfl (by kernel_rfl) (by decide) (fun K hK => ?_)
            refine value_ (w1 := ?_) (v := ?_) (by rfl) rfl ?_ ?_
            rotate_left 2
            · go_simp
              constructor
              · rfl
              · rfl
            refine hK.out _ _ ⟨hHeld.1, hHeld.2.1, hHeld.2.2.1, hHeld.2.2.2.1, hHeld.2.2.2.2.1, hHeld.2.2.2.2.2⟩ (fun hHeld => ?_)
            clear hK K
            refine norm_ (a' := ?_) ?_ ?_
            rotate_left
            · show Act.put _ (some 32) _ = _
              simp only [Act.put, List.setIfInBounds_toArray, List.set_cons_zero, List.set_cons_succ]
              rfl
            exact norm_ (by first | (simp only [putAll, Act.put, List.setIfInBounds_toArray, List.set_cons_zero, List.set_cons_succ]; done) | (simp only [putAll, Act.put, List.setIfInBounds_toArray, List.set_cons_zero, List.set_cons_succ]; rfl)) (hCont ⟨fa .mul .f32 zl x (wr.drewN (1 + fd .mul .f32 zd y)), fa .mul .f32 zd y (wr.drewN 1)⟩ _ ⟨cls_fa _ _ _ _ _, cls_fa _ _ _ _ _, _, rfl⟩)
        rintro ⟨rl, rd⟩ wj ⟨hcl, hcd, nj, hwj⟩
        dsimp only at hcl hcd
        have HCL := Lib.hid hcl; have HCD := Lib.hid hcd
        have HST := Lib.hid (HS0.out.later (below_drawn hwj))
        have HBR := Lib.hid (HB0.out.trans ((below_drawn hwj).mono HZ0.out))
        have HSZ := Lib.hid (Nat.le_trans HZ0.out (below_drawn hwj).size)
        have hHeld : wj.cell? ⟨w.heap.size, 0, none⟩ = some (Value.slice (some ⟨ba, oa, none⟩) A.length a3) ∧ wj.cell? ⟨w.heap.size, 1, none⟩ = some (Value.slice (some ⟨bl, ol, none⟩) L.length l3) ∧ wj.cell? ⟨w.heap.size, 2, none⟩ = some (Value.slice (some ⟨bd, od, none⟩) D.length d3) ∧ wj.cell? ⟨ba, oa + k, none⟩ = some (Value.float FloatKind.f32 za) ∧ wj.cell? ⟨bl, ol + k, none⟩ = some (Value.float FloatKind.f32 zl) ∧ wj.cell? ⟨bd, od + k, none⟩ = some (Value.float FloatKind.f32 zd) := by rw [hwj]; exact hS0
        clear hcl hcd hwj
        refine norm_ (a' := ?_) ?_ ?_
        rotate_left
        · simp only [putAll, Act.put, List.setIfInBounds_toArray, List.set_cons_zero, List.set_cons_succ]
          rfl
        refine last_ (i := 19) (N := some 40) #[true, true, true, true, true, true, true, true, true, true, true, true, true, true, true, true, true, true, true, true] rfl rfl (by kernel_rfl) (by decide) (fun K hK => ?_)
        refine goes_ Try.func79 (by kernel_rfl) rfl #[.pointer (some ⟨ob, 0, none⟩), .float .f32 za, .float .f32 rl, .float .f32 rd] (by rfl) rfl rfl (by simp only [List.map_toArray, List.map_cons, List.map_nil]; rfl) ?_
        with_reducible refine ((spec_l02Put _ _ _ _ _ _ _ _ _ _ _ _ _ HST.out HBR.out HSZ.out NL.out.1 NL.out.2.1 NL.out.2.2)).mono ?_
        rintro e w4 ⟨rfl, va', vl', vd', hst, hbr, hsz⟩
        clear HST HBR HSZ
        have HST := Lib.hid hst; have HBR := Lib.hid hbr; have HSZ := Lib.hid hsz
        clear hst hbr hsz
        refine ⟨_, rfl, ?_⟩
        refine hK.out _ _ ?_
        clear hK K
        refine norm_ (a' := ?_) ?_ ?_
        rotate_left
        · show Act.put _ (some 40) _ = _
          simp only [Act.put, List.setIfInBounds_toArray, List.set_cons_zero, List.set_cons_succ]
          rfl
        refine done_ (by kernel_rfl) ?_
        go_wp2
        go_roundw
        case rel => exact ⟨k + 1, _, _, _, _, _, by omega, by go_num, by rw [HTA.out]; exact HST.out, HBR.out, HSZ.out, SX.out _ HCL.out, SYY.out _ HCD.out⟩
        case measure => simp [intOf]; omega
      · have hkl : k = A.length := by omega
        subst hkl
        rw [List.take_length] at HST
        obtain ⟨⟨r0, r1, r2⟩, f0, f1, f2⟩ := cells3 KR.out
        obtain ⟨⟨k0, k1, k2⟩, _⟩ := cells3 KP.out
        obtain ⟨x4, y4, z4, rfl⟩ := own_shape HST.out.oa
        obtain ⟨x5, y5, z5, rfl⟩ := own_shape HST.out.ol
        obtain ⟨x6, y6, z6, rfl⟩ := own_shape HST.out.od
        obtain ⟨⟨o0, o1, o2⟩, _⟩ := cells3 HST.out.blk
        go_wp2_with fail
        refine (spec_l02Give _ _ _ _ _ _ _ HST.out.own3.PS).mono ?_
        rintro e w4 ⟨rfl, hb⟩
        have HO : Hid (Own3 w4 w.heap.size (Value.slice x4 y4 z4) (Value.slice x5 y5 z5) (Value.slice x6 y6 z6) A xs ys) := Lib.hid ((HST.out.own3.later hb).base (by have := HS1.out; omega))
        have KF := Lib.hid (KR.out.later hb)
        have HBF := Lib.hid (HBT.out.trans (hb.mono HBT.out.size))
        clear r0 r1 r2 f0 f1 f2 k0 k1 k2 o0 o1 o2 hb HST KR KP HBT HBR HSZ
        obtain ⟨⟨r0, r1, r2⟩, f0, f1, f2⟩ := cells3 KF.out
        obtain ⟨ok, hok⟩ : ∃ ok, validB A xs ys = ok := ⟨_, rfl⟩
        have HSC := Lib.hid (fun e' w' (h : RetT (outL ok A) (outL ok xs) (outL ok ys) ok w e' w') => scaleT_of HE.out HXS.out HYS.out hok h)
        cases ok
        · rw [giveV_no hok]
          clear hok
          have KW := Lib.hid (set3_blk KF.out (Value.slice none 0 0) (Value.slice none 0 0) (Value.slice none 0 0))
          have HBW := Lib.hid (set3_below (b := w.heap.size + 1) HBF.out (by omega) (Value.slice none 0 0) (Value.slice none 0 0) (Value.slice none 0 0))
          go_wp2
          obtain ⟨⟨q0, q1, q2⟩, _⟩ := cells3 KW.out
          unfold set3 at q0 q1 q2
          refine bodyPost_ret (v := .tuple #[.agg #[Value.slice none 0 0, Value.slice none 0 0, Value.slice none 0 0], .bool false]) (by simp [results, Try.results53, go_sem, q0, q1, q2]) rfl (HSC.out _ _ (retT_no rfl HBW.out))
        · rw [giveV_yes hok]
          clear hok
          have KW := Lib.hid (set3_blk KF.out (Value.slice x4 y4 z4) (Value.slice x5 y5 z5) (Value.slice x6 y6 z6))
          have HBW := Lib.hid (set3_below (b := w.heap.size + 1) HBF.out (by omega) (Value.slice x4 y4 z4) (Value.slice x5 y5 z5) (Value.slice x6 y6 z6))
          have HOW := Lib.hid (set3_own HO.out KF.out (Value.slice x4 y4 z4) (Value.slice x5 y5 z5) (Value.slice x6 y6 z6))
          go_wp2
          obtain ⟨⟨q0, q1, q2⟩, _⟩ := cells3 KW.out
          unfold set3 at q0 q1 q2
          refine bodyPost_ret (v := .tuple #[.agg #[Value.slice x4 y4 z4, Value.slice x5 y5 z5, Value.slice x6 y6 z6], .bool true]) (by simp [results, Try.results53, go_sem, q0, q1, q2]) rfl (HSC.out _ _ (retT_yes rfl HOW.out HBW.out))

end Go.Proofs.Ytdkgdinbglkjcaa
