/- Knots that are picked out: the reference. -/
import Derived.Test.YtdkgdinbglkjcaaWk21
namespace Go.Proofs.Ytdkgdinbglkjcaa
open Fl Go.RowKit

/-- Of the first k numbers those whose places are wanted. -/
def sel (p : Nat → Bool) (X : List Nat) : Nat → List Nat
  | 0 => []
  | k + 1 => if p k then sel p X k ++ [X.getD k 0] else sel p X k
theorem sel_yes {p : Nat → Bool} {X : List Nat} {k : Nat} (h : p k = true) : sel p X (k + 1) = sel p X k ++ [X.getD k 0] := by show (if p k then _ else _) = _; rw [if_pos h]
theorem sel_no {p : Nat → Bool} {X : List Nat} {k : Nat} (h : p k = false) : sel p X (k + 1) = sel p X k := by show (if p k then _ else _) = _; rw [h]; rfl
theorem sel_len (p : Nat → Bool) (X : List Nat) : ∀ k, (sel p X k).length ≤ k
  | 0 => Nat.zero_le _
  | k + 1 => by
    have ih := sel_len p X k
    cases h : p k
    · rw [sel_no h]; omega
    · rw [sel_yes h, List.length_append]; simp; omega
def outL (ok : Bool) (zs : List Nat) : List Nat := if ok then zs else []
/-- The call hands back the picked knots, if they are a valid profile. -/
def SelT (g : Bool) (p : Nat → Bool) (A L D : List Nat) : World → Ending → World → Prop :=
  RetT (outL (validB A L D && g && validB (sel p A A.length) (sel p L A.length) (sel p D A.length)) (sel p A A.length)) (outL (validB A L D && g && validB (sel p A A.length) (sel p L A.length) (sel p D A.length)) (sel p L A.length))
    (outL (validB A L D && g && validB (sel p A A.length) (sel p L A.length) (sel p D A.length)) (sel p D A.length)) (validB A L D && g && validB (sel p A A.length) (sel p L A.length) (sel p D A.length))
theorem retT_no {A L D : List Nat} {ok : Bool} {w w' : World} (h : ok = false) (hb : Below w.heap.size w w') :
    RetT (outL ok A) (outL ok L) (outL ok D) ok w (.returned (.tuple #[.agg #[.slice none 0 0, .slice none 0 0, .slice none 0 0], .bool false])) w' := by
  subst h
  exact ⟨_, _, _, rfl, Own3.nil _ _, hb⟩
theorem retT_yes {A L D : List Nat} {ok : Bool} {a l d : Value} {w w' : World} (h : ok = true) (ho : Own3 w' w.heap.size a l d A L D) (hb : Below w.heap.size w w') :
    RetT (outL ok A) (outL ok L) (outL ok D) ok w (.returned (.tuple #[.agg #[a, l, d], .bool true])) w' := by
  subst h
  exact ⟨_, _, _, rfl, ho, hb⟩

set_option maxRecDepth 8000 in
set_option maxHeartbeats 1600000 in
theorem spec_CutProfile (w : World) (v : Value) (A L D : List Nat) (x y : Nat) (h : PS w v A L D) : Calls Try.prog 51 #[v, .float .f32 x, .float .f32 y] w (SelT true (fun k => inB (A.getD k 0) x y) A L D w) := by
  obtain ⟨p, hp⟩ : ∃ p : Nat → Bool, p = fun k => inB (A.getD k 0) x y := ⟨_, rfl⟩
  rw [← hp]
  have HP : Hid (∀ k, p k = (geB (A.getD k 0) x && leB (A.getD k 0) y)) := Lib.hid fun k => by rw [hp]; rfl
  clear hp
  obtain ⟨a1, a2, a3, l1, l2, l3, d1, d2, d3, rfl, fa, fl, fd⟩ := h.shape
  obtain ⟨rfl, ma, CA⟩ := fa.at
  obtain ⟨rfl, ml, CL⟩ := fl.at
  obtain ⟨rfl, md, CD⟩ := fd.at
  obtain ⟨k1, k2, hb, hz⟩ := box2 w #[Value.slice a1 A.length a3, Value.slice l1 L.length l3, Value.slice d1 D.length d3] #[Value.slice none 0 0, Value.slice none 0 0, Value.slice none 0 0] 36 36
  obtain ⟨wb, hwb⟩ : ∃ wb, wb = ((w.alloc (Obj.cells #[Value.slice a1 A.length a3, Value.slice l1 L.length l3, Value.slice d1 D.length d3] 36)).alloc (Obj.cells #[Value.slice none 0 0, Value.slice none 0 0, Value.slice none 0 0] 36)) := ⟨_, rfl⟩
  rw [← hwb] at k1 k2 hb hz
  have FA := Lib.hid (fa.later hb); have FL := Lib.hid (fl.later hb); have FD := Lib.hid (fd.later hb); have K1 := Lib.hid k1; have K2 := Lib.hid k2; have HB := Lib.hid hb; have HZ := Lib.hid hz
  clear fa fl fd h k1 k2 hb hz ma ml md
  cases hv : validB A L D
  · have HV := Lib.hid hv
    have HR : Hid (∀ w', Below w.heap.size w w' → SelT true p A L D w (.returned (.tuple #[.agg #[.slice none 0 0, .slice none 0 0, .slice none 0 0], .bool false])) w') := Lib.hid fun w' hb => retT_no (by rw [hv]; rfl) hb
    clear hv CA CL CD
    go_enter Try.func51, Try.ntmps51
    go_wp2_with fail
    rw [← hwb]
    clear hwb
    refine (spec_l02Is _ _ _ _ _ A L D K1.out FA.out FL.out FD.out).mono ?_
    rintro e w1 ⟨rfl, n1, hw1⟩
    rw [HV.out]
    replace K1 : Hid (Blk w1 _ _ _) := Lib.hid (by rw [hw1]; exact K1.out)
    replace K2 : Hid (Blk w1 _ _ _) := Lib.hid (by rw [hw1]; exact K2.out)
    replace HB : Hid (Below w.heap.size w w1) := Lib.hid (by rw [hw1]; exact below_dn HB.out _)
    clear hw1 FA FL FD K1
    obtain ⟨⟨r0, r1, r2⟩, f0, f1, f2⟩ := cells3 K2.out
    go_wp2
    have KF := Lib.hid (set3_blk K2.out (Value.slice none 0 0) (Value.slice none 0 0) (Value.slice none 0 0))
    obtain ⟨⟨q0, q1, q2⟩, _⟩ := cells3 KF.out
    unfold set3 at q0 q1 q2
    refine bodyPost_ret (v := .tuple #[.agg #[Value.slice none 0 0, Value.slice none 0 0, Value.slice none 0 0], .bool false]) (by simp [results, Try.results51, go_sem, q0, q1, q2]) rfl ?_
    exact HR.out _ (set3_below HB.out (by omega) _ _ _)
  · have HV := Lib.hid hv
    obtain ⟨s1, s2, s3, s4⟩ := sizes_spec (valid_sizes hv)
    have HE : Hid (∀ b, validB (sel p A A.length) (sel p L A.length) (sel p D A.length) = b → (validB A L D && true && validB (sel p A A.length) (sel p L A.length) (sel p D A.length)) = b) := Lib.hid fun b hb => by rw [hv, hb]; simp
    have H1 := Lib.hid s1; have H2 := Lib.hid s2; have H3 := Lib.hid s3; have H4 := Lib.hid s4
    clear hv s1 s2 s3 s4
    go_enter Try.func51, Try.ntmps51
    go_wp2_with fail
    rw [← hwb]
    clear hwb
    refine (spec_l02Is _ _ _ _ _ A L D K1.out FA.out FL.out FD.out).mono ?_
    rintro e w1 ⟨rfl, n1, hw1⟩
    rw [HV.out]
    replace K1 : Hid (Blk w1 _ _ _) := Lib.hid (by rw [hw1]; exact K1.out)
    replace K2 : Hid (Blk w1 _ _ _) := Lib.hid (by rw [hw1]; exact K2.out)
    replace HB : Hid (Below w.heap.size w w1) := Lib.hid (by rw [hw1]; exact below_dn HB.out _)
    have HS1 : Hid (w.heap.size + 2 ≤ w1.heap.size) := Lib.hid (by rw [hw1]; have := HZ.out; simp; omega)
    clear hw1 FA FL FD HZ
    go_wp2_with fail
    refine (spec_l02New _).mono ?_
    rintro e w2 ⟨va, vl, vd, rfl, ho, hb⟩
    obtain ⟨x1, y1, z1, rfl⟩ := own_shape ho.oa
    obtain ⟨x2, y2, z2, rfl⟩ := own_shape ho.ol
    obtain ⟨x3, y3, z3, rfl⟩ := own_shape ho.od
    have hs := hb.size
    have B2 := Lib.hid hb
    have O2 := Lib.hid ho
    clear ho hb
    go_wp2_with fail
    obtain ⟨w3, hw3⟩ : ∃ w3, w3 = w2.alloc (Obj.cells #[Value.slice x1 y1 z1, Value.slice x2 y2 z2, Value.slice x3 y3 z3] 36) := ⟨_, rfl⟩
    rw [← hw3]
    have S0 : Hid (St w3 w2.heap.size w1.heap.size (Value.slice x1 y1 z1) (Value.slice x2 y2 z2) (Value.slice x3 y3 z3) (sel p A 0) (sel p L 0) (sel p D 0)) := Lib.hid (by rw [hw3]; exact (O2.out.later ((Below.refl _ _).alloc (Nat.le_refl _) _)).St hs (Blk.new _ _ _))
    have B3 : Hid (Below w1.heap.size w1 w3 ∧ w1.heap.size ≤ w3.heap.size) := Lib.hid (by rw [hw3]; exact ⟨B2.out.alloc hs _, by simp; omega⟩)
    have HS2 := Lib.hid hs
    clear hw3 O2 B2 hs
    generalize w2.heap.size = ob at *
    go_loopw [9] (fun i wr => ∃ (k : Nat) (a l d : Value), k ≤ A.length ∧ i = .int .i64 k ∧ St wr ob w1.heap.size a l d (sel p A k) (sel p L k) (sel p D k) ∧ Below w1.heap.size w1 wr ∧ w1.heap.size ≤ wr.heap.size) (fun i _ => A.length - (intOf i).toNat)
    case atStart => exact ⟨0, _, _, _, Nat.zero_le _, rfl, S0.out, B3.out.1, B3.out.2⟩
    case round =>
      obtain ⟨k, va, vl, vd, hk, rfl, hst, hbr, hsz⟩ := hrel
      have HST := Lib.hid hst; have HBR := Lib.hid hbr; have HSZ := Lib.hid hsz
      have HBT : Hid (Below w.heap.size w wr) := Lib.hid (HB.out.trans (hbr.mono (by have := HS1.out; omega)))
      have KP : Hid (Blk wr w.heap.size #[Value.slice a1 A.length a3, Value.slice l1 L.length l3, Value.slice d1 D.length d3] 36) := Lib.hid (K1.out.keep hbr (by have := HS1.out; omega))
      have KR : Hid (Blk wr (w.heap.size + 1) #[Value.slice none 0 0, Value.slice none 0 0, Value.slice none 0 0] 36) := Lib.hid (K2.out.keep hbr (by have := HS1.out; omega))
      clear hst hbr hsz S0 B3
      by_cases hlt : k < A.length
      · obtain ⟨ba, oa, rfl, hba, hA⟩ := CA.out k hlt
        obtain ⟨bl, ol, rfl, hbl, hL⟩ := CL.out k (by have := H3.out; omega)
        obtain ⟨bd, od, rfl, hbd, hD⟩ := CD.out k (by have := H4.out; omega)
        obtain ⟨⟨k0, k1, k2⟩, _⟩ := cells3 KP.out
        have hA' : wr.cell? ⟨ba, oa + k, none⟩ = some (.float .f32 (A.getD k 0)) := (HBT.out.cell (p := ⟨ba, oa + k, none⟩) hba).trans hA
        have hL' : wr.cell? ⟨bl, ol + k, none⟩ = some (.float .f32 (L.getD k 0)) := (HBT.out.cell (p := ⟨bl, ol + k, none⟩) hbl).trans hL
        have hD' : wr.cell? ⟨bd, od + k, none⟩ = some (.float .f32 (D.getD k 0)) := (HBT.out.cell (p := ⟨bd, od + k, none⟩) hbd).trans hD
        have GA := Lib.hid (And.intro hba hA); have GL := Lib.hid (And.intro hbl hL); have GD := Lib.hid (And.intro hbd hD)
        clear hA hL hD hba hbl hbd
        have q4 : (A.length : Int) ≤ 24 := by have := H2.out; omega
        have q0 : (k : Int) < A.length := by omega
        have q1 : (k : Int) < L.length := by have := H3.out; omega
        have q2 : (k : Int) < D.length := by have := H4.out; omega
        have q3 : (0 : Int) ≤ (k : Int) := by omega
        have PK := Lib.hid (HP.out k)
        have SY := Lib.hid (fun (h : p k = true) => And.intro (sel_yes (X := A) h) (And.intro (sel_yes (X := L) h) (sel_yes (X := D) h)))
        have SN := Lib.hid (fun (h : p k = false) => And.intro (sel_no (X := A) h) (And.intro (sel_no (X := L) h) (sel_no (X := D) h)))
        have n1 := sel_len p A k; have n2 := sel_len p L k; have n3 := sel_len p D k
        have N1 : Hid ((sel p A k).length ≤ 1000 ∧ (sel p L k).length ≤ 1000 ∧ (sel p D k).length ≤ 1000) := Lib.hid (by have := H2.out; omega)
        clear n1 n2 n3
        generalize A.getD k 0 = za at *
        generalize L.getD k 0 = zl at *
        generalize D.getD k 0 = zd at *
        cases hg : (FloatKind.f32.format.order za x == some .gt || FloatKind.f32.format.order za x == some .eq)
        · have HN := Lib.hid (SN.out (by rw [PK.out]; unfold geB; rw [hg]; rfl))
          clear SY SN PK
          go_wp2
          go_roundw
          case rel => exact ⟨k + 1, _, _, _, by omega, by go_num, by rw [HN.out.1, HN.out.2.1, HN.out.2.2]; exact HST.out, HBR.out, HSZ.out⟩
          case measure => simp [intOf]; omega
        · cases hh : (FloatKind.f32.format.order za y == some .lt || FloatKind.f32.format.order za y == some .eq)
          · have HN := Lib.hid (SN.out (by rw [PK.out]; unfold geB leB; rw [hg, hh]; rfl))
            clear SY SN PK
            go_wp2
            go_roundw
            case rel => exact ⟨k + 1, _, _, _, by omega, by go_num, by rw [HN.out.1, HN.out.2.1, HN.out.2.2]; exact HST.out, HBR.out, HSZ.out⟩
            case measure => simp [intOf]; omega
          · have HY := Lib.hid (SY.out (by rw [PK.out]; unfold geB leB; rw [hg, hh]; rfl))
            clear SY SN PK
            go_wp2_with fail
            have hd : Below wr.heap.size wr wr.drew := below_dn (Below.refl _ _) 1
            replace HST := Lib.hid (HST.out.later hd)
            replace HBR := Lib.hid (HBR.out.trans (hd.mono HSZ.out))
            replace HSZ : Hid (w1.heap.size ≤ wr.drew.heap.size) := Lib.hid HSZ.out
            clear hd
            have T0 : True := trivial
            go_region_held3 (fun w' => w'.cell? ⟨w.heap.size, 0, none⟩ = some (Value.slice (some ⟨ba, oa, none⟩) A.length a3) ∧ w'.cell? ⟨w.heap.size, 1, none⟩ = some (Value.slice (some ⟨bl, ol, none⟩) L.length l3) ∧ w'.cell? ⟨w.heap.size, 2, none⟩ = some (Value.slice (some ⟨bd, od, none⟩) D.length d3) ∧ w'.cell? ⟨ba, oa + k, none⟩ = some (.float .f32 za) ∧ w'.cell? ⟨bl, ol + k, none⟩ = some (.float .f32 zl) ∧ w'.cell? ⟨bd, od + k, none⟩ = some (.float .f32 zd)) (exact ⟨k0, k1, k2, hA', hL', hD'⟩) (first
              | (clear T0; go_at_call 79; refine (spec_l02Put _ _ _ _ _ _ _ _ _ _ _ _ _ HST.out HBR.out HSZ.out N1.out.1 N1.out.2.1 N1.out.2.2).mono ?_; rintro e w4 ⟨rfl, va', vl', vd', hst, hbr, hsz⟩; clear HST HBR HSZ k0 k1 k2 hA' hL' hD'; have HST := Lib.hid hst; have HBR := Lib.hid hbr; have HSZ := Lib.hid hsz; have HBT2 := HB.out.trans (hbr.mono (by have := HS1.out; omega)); obtain ⟨⟨k0, k1, k2⟩, _⟩ := cells3 (K1.out.keep hbr (by have := HS1.out; omega)); have hA' := (HBT2.cell (p := ⟨ba, oa + k, none⟩) GA.out.1).trans GA.out.2; have hL' := (HBT2.cell (p := ⟨bl, ol + k, none⟩) GL.out.1).trans GL.out.2; have hD' := (HBT2.cell (p := ⟨bd, od + k, none⟩) GD.out.1).trans GD.out.2; clear hst hbr hsz HBT2))
            go_wp2
            go_roundw
            case rel => exact ⟨k + 1, _, _, _, by omega, by go_num, by rw [HY.out.1, HY.out.2.1, HY.out.2.2]; exact HST.out, HBR.out, HSZ.out⟩
            case measure => simp [intOf]; omega
      · have hkl : k = A.length := by omega
        subst hkl
        obtain ⟨⟨r0, r1, r2⟩, f0, f1, f2⟩ := cells3 KR.out
        obtain ⟨⟨k0, k1, k2⟩, _⟩ := cells3 KP.out
        obtain ⟨x4, y4, z4, rfl⟩ := own_shape HST.out.oa
        obtain ⟨x5, y5, z5, rfl⟩ := own_shape HST.out.ol
        obtain ⟨x6, y6, z6, rfl⟩ := own_shape HST.out.od
        obtain ⟨⟨o0, o1, o2⟩, _⟩ := cells3 HST.out.blk
        go_wp2_with fail
        refine (spec_l02Give _ _ _ _ _ _ _ HST.out.own3.PS).mono ?_
        rintro e w4 ⟨rfl, hb⟩
        have HO : Hid (Own3 w4 w.heap.size (Value.slice x4 y4 z4) (Value.slice x5 y5 z5) (Value.slice x6 y6 z6) (sel p A A.length) (sel p L A.length) (sel p D A.length)) := Lib.hid ((HST.out.own3.later hb).base (by have := HS1.out; omega))
        have KF := Lib.hid (KR.out.later hb)
        have HBF := Lib.hid (HBT.out.trans (hb.mono HBT.out.size))
        clear r0 r1 r2 f0 f1 f2 k0 k1 k2 o0 o1 o2 hb HST KR KP HBT HBR HSZ
        obtain ⟨⟨r0, r1, r2⟩, f0, f1, f2⟩ := cells3 KF.out
        obtain ⟨ok, hok⟩ : ∃ ok, validB (sel p A A.length) (sel p L A.length) (sel p D A.length) = ok := ⟨_, rfl⟩
        have OKE := Lib.hid (HE.out ok hok)
        cases ok
        · rw [giveV_no hok]
          clear hok
          have KW := Lib.hid (set3_blk KF.out (Value.slice none 0 0) (Value.slice none 0 0) (Value.slice none 0 0))
          have HBW := Lib.hid (set3_below (b := w.heap.size + 1) HBF.out (by omega) (Value.slice none 0 0) (Value.slice none 0 0) (Value.slice none 0 0))
          go_wp2
          obtain ⟨⟨q0, q1, q2⟩, _⟩ := cells3 KW.out
          unfold set3 at q0 q1 q2
          refine bodyPost_ret (v := .tuple #[.agg #[Value.slice none 0 0, Value.slice none 0 0, Value.slice none 0 0], .bool false]) (by simp [results, Try.results51, go_sem, q0, q1, q2]) rfl (retT_no OKE.out HBW.out)
        · rw [giveV_yes hok]
          clear hok
          have KW := Lib.hid (set3_blk KF.out (Value.slice x4 y4 z4) (Value.slice x5 y5 z5) (Value.slice x6 y6 z6))
          have HBW := Lib.hid (set3_below (b := w.heap.size + 1) HBF.out (by omega) (Value.slice x4 y4 z4) (Value.slice x5 y5 z5) (Value.slice x6 y6 z6))
          have HOW := Lib.hid (set3_own HO.out KF.out (Value.slice x4 y4 z4) (Value.slice x5 y5 z5) (Value.slice x6 y6 z6))
          go_wp2
          obtain ⟨⟨q0, q1, q2⟩, _⟩ := cells3 KW.out
          unfold set3 at q0 q1 q2
          refine bodyPost_ret (v := .tuple #[.agg #[Value.slice x4 y4 z4, Value.slice x5 y5 z5, Value.slice x6 y6 z6], .bool true]) (by simp [results, Try.results51, go_sem, q0, q1, q2]) rfl (retT_yes OKE.out HOW.out HBW.out)

end Go.Proofs.Ytdkgdinbglkjcaa
