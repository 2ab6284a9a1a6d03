/- MirrorProfile: the program (printed by gmir4.py; the drawn region's walk by the kit's regions.py). -/
import Derived.Test.YtdkgdinbglkjcaaMr3
import Derived.Test.YtdkgdinbglkjcaaWk25
import Derived.Maps.OwnIn
namespace Go.Proofs.Ytdkgdinbglkjcaa
open Fl Go.RowKit Go.Shelf YtdkgdinbglkjcaaW.PrintLast

attribute [local go_sem] Oper.semAt_some

/-- No operation of the region defers a call. -/
def plainOp (o : Oper) : Bool := match o.op with | .defer _ => false | _ => true
theorem plain_of {ops : Array Oper} (h : ops.toList.all plainOp = true) : ∀ o ∈ ops.toList, ∀ c, o.op ≠ .defer c := fun o ho c hc => by
  have := List.all_eq_true.1 h o ho
  unfold plainOp at this
  rw [hc] at this
  cases this
/-- A drawn region in a round of a loop over an iterator. -/
theorem region_round {P : Program} {ops : Array Oper} {Q : Exit → Act → World → Prop} {l id m n : Nat} {S : World → Prop} {ds : List Nat} {a : Act} {w : World} (lt : Array Bool) (hm : P.follows .mixedOrders = true) (hd : ops.toList.all plainOp = true) (hn : ops.size = m) (hl : Array.replicate m false = lt) (hS : S w.drew)
    (h : S w.drew → wpAnyLast P .any ops (fun e a w => e = .normal ∧ Q .normal a w) S ds m lt a w.drew) : (Code.region id ops true).wpIn (Fence.wide.inRound l) n P Q a w :=
  Code.wpIn_mono (fun e a w hq => by obtain ⟨rfl, hq⟩ := hq; exact hq) (start_round lt hm (plain_of hd) (fun hx => by obtain ⟨_, _, hc, _⟩ := hx; cases hc) hn hl hS h)

theorem own_cells {w : World} {B n j : Nat} {v : Value} {xs : List Value} (h : w.ownsRow B 23 1 v n xs) {o : Obj} (hj : v.ownBlock = some j) (ho : w.heap[j]? = some o) : o.isCells = true ∧ ∃ cs f, o = .cells cs 23 f := by
  rcases h.2 with ⟨rfl, _⟩ | ⟨g, cap, cur, rfl, _, hg, _⟩
  · cases hj
  · obtain rfl : g = j := by simpa [Value.ownBlock] using hj
    rw [hg] at ho
    cases ho
    exact ⟨rfl, _, _, rfl⟩
theorem own_keeps {w w' : World} {B n : Nat} {v : Value} {xs : List Value} (h : w.ownsRow B 23 1 v n xs) (hg : w.grownBy w' v.ownBlock) : KeepsOthers w w' :=
  KeepsOthers.of_grownBy hg fun _ _ hj ho => (own_cells h hj ho).1
theorem own_ne_sbox {w : World} {b B n : Nat} {cs : Array Value} {v : Value} {xs : List Value} (h : w.ownsRow B 23 1 v n xs) (k : Blk w b cs 22) : v.ownBlock ≠ some b := by
  intro hc
  obtain ⟨cs', f, e⟩ := (own_cells h hc k).2
  cases e
theorem Blk.not {w : World} {b : Nat} {cs : Array Value} {T : TypeId} (k : Blk w b cs T) {row : Option Nat} (hr : ∀ r, row = some r → ∃ o : Obj, w.heap[r]? = some o ∧ o.isCells = false) : row ≠ some b := fun e => by
  obtain ⟨o, ho, hc⟩ := hr b e
  unfold Blk at k
  rw [k] at ho
  cases ho
  cases hc
theorem own_not {w : World} {B n : Nat} {v : Value} {xs : List Value} (h : w.ownsRow B 23 1 v n xs) {row : Option Nat} (hr : ∀ r, row = some r → ∃ o : Obj, w.heap[r]? = some o ∧ o.isCells = false) : v.ownBlock = none ∨ v.ownBlock ≠ row := by
  cases hv : v.ownBlock with
  | none => exact .inl rfl
  | some j =>
    refine .inr fun e => ?_
    obtain ⟨o, ho, hc⟩ := hr j e.symm
    rw [(own_cells h hv ho).1] at hc
    cases hc
theorem St.still {w w' : World} {b B : Nat} {a l d : Value} {A L D : List Nat} (h : St w b B a l d A L D) {row : Option Nat} (hg : w.grownBy w' row) (hr : ∀ r, row = some r → ∃ o : Obj, w.heap[r]? = some o ∧ o.isCells = false) : St w' b B a l d A L D :=
  ⟨h.blk.kept hg (h.blk.not hr), h.bB, h.oa.kept hg (own_not h.oa hr), h.ol.kept hg (own_not h.ol hr), h.od.kept hg (own_not h.od hr), h.al, h.ad, h.ld⟩
theorem Own3.still {w w' : World} {B : Nat} {a l d : Value} {A L D : List Nat} (h : Own3 w B a l d A L D) {row : Option Nat} (hg : w.grownBy w' row) (hr : ∀ r, row = some r → ∃ o : Obj, w.heap[r]? = some o ∧ o.isCells = false) : Own3 w' B a l d A L D :=
  h.kept hg (own_not h.oa hr) (own_not h.ol hr) (own_not h.od hr)

/-- As Mid; and what is no cells lies as it lay, and so does the iterator's box. -/
structure Mik (W0 : World) (Bs : Nat) (sv : Value) (w : World) (ob B : Nat) (w0 : World) (x y z a l d : Value) (A L D : List Nat) : Prop extends Mid w ob B w0 x y z a l d A L D where
  ko : KeepsOthers W0 w
  bw : Below B W0 w
  bx : Blk w Bs #[sv] 22
theorem Mik.alloc {W0 : World} {Bs : Nat} {sv : Value} {w : World} {ob B : Nat} {w0 : World} {x y z a l d : Value} {A L D : List Nat} (h : Mik W0 Bs sv w ob B w0 x y z a l d A L D) (o : Obj) : Mik W0 Bs sv (w.alloc o) ob B w0 x y z a l d A L D :=
  ⟨h.toMid.alloc o, h.ko.trans (.alloc _ _), h.bw.alloc h.sz _, h.bx.alloc _⟩
theorem Mik.newCell {W0 : World} {Bs : Nat} {sv : Value} {w : World} {ob B : Nat} {w0 : World} {x y z a l d : Value} {A L D : List Nat} (h : Mik W0 Bs sv w ob B w0 x y z a l d A L D) (u b : Nat) (hb : w.heap.size = b) : (w.alloc (Obj.cells #[Value.float .f32 u] 23)).cell? ⟨b, 0, none⟩ = some (Value.float .f32 u) :=
  h.toMid.newCell u b hb
theorem Mik.newNe {w : World} {B b n : Nat} {v : Value} {xs : List Value} (h : w.ownsRow B 23 1 v n xs) (hb : w.heap.size ≤ b) : v.ownBlock ≠ some b := Mid.newNe h hb
theorem Mik.appL {W0 : World} {Bs : Nat} {sv : Value} {w w' : World} {ob B : Nat} {w0 : World} {x y z a l d : Value} {A L D : List Nat} {u g cap : Nat} (h : Mik W0 Bs sv w ob B w0 x y z a l d A L D)
    (ho : w'.ownsRow B 23 1 (.slice (some ⟨g, 0, none⟩) (L.length + 1) cap) (L.length + 1) (L.map (Value.float .f32) ++ [.float .f32 u])) (hg : w.grownBy w' l.ownBlock) (hat : l.ownBlock = some g ∨ g = w.heap.size) :
    Mik W0 Bs sv w' ob B w0 x y z a (.slice (some ⟨g, 0, none⟩) (L.length + 1) cap) d A (L ++ [u]) D :=
  ⟨h.toMid.appL ho hg hat, h.ko.trans (own_keeps h.own.ol hg), h.bw.grown hg h.sz (fun k hk => (h.own.ol.lt k hk).1), h.bx.kept hg (own_ne_sbox h.own.ol h.bx)⟩
theorem Mik.appD {W0 : World} {Bs : Nat} {sv : Value} {w w' : World} {ob B : Nat} {w0 : World} {x y z a l d : Value} {A L D : List Nat} {u g cap : Nat} (h : Mik W0 Bs sv w ob B w0 x y z a l d A L D)
    (ho : w'.ownsRow B 23 1 (.slice (some ⟨g, 0, none⟩) (D.length + 1) cap) (D.length + 1) (D.map (Value.float .f32) ++ [.float .f32 u])) (hg : w.grownBy w' d.ownBlock) (hat : d.ownBlock = some g ∨ g = w.heap.size) :
    Mik W0 Bs sv w' ob B w0 x y z a l (.slice (some ⟨g, 0, none⟩) (D.length + 1) cap) A L (D ++ [u]) :=
  ⟨h.toMid.appD ho hg hat, h.ko.trans (own_keeps h.own.od hg), h.bw.grown hg h.sz (fun k hk => (h.own.od.lt k hk).1), h.bx.kept hg (own_ne_sbox h.own.od h.bx)⟩
theorem Mik.done2 {W0 : World} {Bs : Nat} {sv : Value} {w : World} {ob B : Nat} {w0 : World} {x y z a l d : Value} {A L D : List Nat} (h : Mik W0 Bs sv w ob B w0 x y z a l d A L D) (hne : Bs ≠ ob) (y' z' : Value) :
    KeepsOthers W0 ((w.setCell ⟨ob, 1, none⟩ y').setCell ⟨ob, 2, none⟩ z') ∧ Blk ((w.setCell ⟨ob, 1, none⟩ y').setCell ⟨ob, 2, none⟩ z') Bs #[sv] 22 ∧ Below B W0 ((w.setCell ⟨ob, 1, none⟩ y').setCell ⟨ob, 2, none⟩ z') :=
  ⟨(h.ko.trans (.setCell _ _ _)).trans (.setCell _ _ _), (h.bx.other hne 1 y').other hne 2 z', (h.bw.setCell (p := ⟨ob, 1, none⟩) h.bB y').setCell (p := ⟨ob, 2, none⟩) h.bB z'⟩
/-- What the body keeps of the iterator's box and of what lay below. -/
theorem nth_getD (X : List Nat) (k : Nat) : nth X k = X.getD k 0 := by simp [nth, List.getD]
theorem map_upto {α β : Type} (f : Nat → α) (g : α → β) (k : Nat) : (upto f k).map g = upto (fun i => g (f i)) k := by simp [upto]
theorem KB.of {n₀ Bs : Nat} {W W' : World} {sv : Value} (h : Below n₀ W W') (k : Blk W Bs #[sv] 22) (k' : Blk W' Bs #[sv] 22) : KB n₀ Bs W W' := ⟨h, k'.trans k.symm⟩

set_option maxRecDepth 100000 in
set_option maxHeartbeats 3200000 in
theorem impl_MirrorProfile (w : World) (v : Value) (A L D : List Nat) (h : PS w v A L D) : Calls Try.prog 48 #[v] w (MirT A L D w) := by
  have P := Lib.hid h
  obtain ⟨a1, a2, a3, l1, l2, l3, d1, d2, d3, rfl, fa, fl, fd⟩ := h.shape
  obtain ⟨rfl, ma, CA⟩ := fa.at
  obtain ⟨rfl, ml, CL⟩ := fl.at
  obtain ⟨rfl, md, CD⟩ := fd.at
  obtain ⟨i0, hi, hz0, hz1, hz2⟩ := info_parts infoF
  obtain ⟨k1, k2, hb, hz⟩ := box2 w #[Value.slice a1 A.length a3, Value.slice l1 L.length l3, Value.slice d1 D.length d3] #[Value.slice none 0 0, Value.slice none 0 0, Value.slice none 0 0] 36 36
  obtain ⟨wb, hwb⟩ : ∃ wb, wb = ((w.alloc (Obj.cells #[Value.slice a1 A.length a3, Value.slice l1 L.length l3, Value.slice d1 D.length d3] 36)).alloc (Obj.cells #[Value.slice none 0 0, Value.slice none 0 0, Value.slice none 0 0] 36)) := ⟨_, rfl⟩
  rw [← hwb] at k1 k2 hb hz
  replace P := Lib.hid (P.out.later hb)
  have FA := Lib.hid fa
  have K1 := Lib.hid k1; have K2 := Lib.hid k2; have HB := Lib.hid hb; have HZ := Lib.hid hz
  clear h k1 k2 hb hz fa fl fd ma ml md
  obtain ⟨⟨k0, k1, k2⟩, _⟩ := cells3 K1.out
  have VP := Lib.hid (impl_ValidProfile (A := A) (L := L) (D := D))
  refine (callsIn_wide (n := 3)).1 ?_
  cases hv : validB A L D
  · have HV := Lib.hid hv
    have HR : Hid (∀ w', Below w.heap.size w w' → MirT A L D w (.returned (.tuple #[.agg #[.slice none 0 0, .slice none 0 0, .slice none 0 0], .bool false])) w') := Lib.hid fun w' hb => by
      unfold MirT
      rw [hv]
      exact retT_no rfl hb
    rw [hv] at VP
    clear hv CA CL CD
    refine (callsIn_wide (n := 3)).2 ?_
    go_enter Try.func48, Try.ntmps48
    go_wp2_with fail
    rw [← hwb]
    clear hwb
    refine (VP.out _ _ P.out).mono ?_
    rintro e w1 ⟨rfl, hb⟩
    clear k0 k1 k2
    replace K2 := Lib.hid (K2.out.later hb)
    replace HB := Lib.hid (HB.out.trans (hb.mono HB.out.size))
    clear hb P K1
    obtain ⟨⟨r0, r1, r2⟩, f0, f1, f2⟩ := cells3 K2.out
    go_wp2
    have KF := Lib.hid (set3_blk K2.out (Value.slice none 0 0) (Value.slice none 0 0) (Value.slice none 0 0))
    obtain ⟨⟨q0, q1, q2⟩, _⟩ := cells3 KF.out
    unfold set3 at q0 q1 q2
    refine bodyPost_ret (v := .tuple #[.agg #[Value.slice none 0 0, Value.slice none 0 0, Value.slice none 0 0], .bool false]) (by simp [results, Try.results48, go_sem, q0, q1, q2]) rfl ?_
    exact HR.out _ (set3_below HB.out (by omega) _ _ _)
  · obtain ⟨s1, s2, s3, s4⟩ := sizes_spec (valid_sizes hv)
    have HE : Hid (∀ e w', RetT (outL true (upto (ngAt A A.length) A.length)) (outL true (upto (ngAt L A.length) A.length)) (outL true (upto (psAt D A.length) A.length)) true w e w' → MirT A L D w e w') := Lib.hid fun e w' hr => by
      unfold MirT
      rw [hv]
      exact hr
    rw [hv] at VP
    have H1 := Lib.hid s1; have H2 := Lib.hid s2; have H3 := Lib.hid s3; have H4 := Lib.hid s4
    clear hv s1 s2 s3 s4
    refine callsIn_of_wp_marks Try.func48 rfl trivial ?_ rfl
    simp only [Try.ntmps48, List.size_toArray, List.length_cons, List.length_nil, Nat.reduceAdd, Nat.reduceSub, Array.replicate_succ, Array.replicate_zero, List.push_toArray, List.append_toArray, List.nil_append, List.cons_append]
    gi_wp2_with fail
    rw [← hwb]
    clear hwb
    refine ⟨trivial, (callsIn_wide.2 (VP.out _ _ P.out)).mono ?_⟩
    rintro e w1 ⟨rfl, hb⟩
    clear k0 k1 k2
    have HS1 : Hid (w.heap.size + 2 ≤ w1.heap.size) := Lib.hid (by have := hb.size; have := HZ.out; omega)
    replace K1 := Lib.hid (K1.out.later hb)
    replace K2 := Lib.hid (K2.out.later hb)
    replace HB := Lib.hid (HB.out.trans (hb.mono HB.out.size))
    clear hb P VP HZ
    obtain ⟨pb, hpb⟩ : ∃ pb, pb = w.heap.size := ⟨_, rfl⟩
    rw [← hpb] at K1 K2 HS1 ⊢
    have HPB := Lib.hid hpb
    clear hpb
    obtain ⟨⟨k0, k1, k2⟩, _⟩ := cells3 (K1.out.alloc (Obj.cells #[Value.slice none 0 0, Value.slice none 0 0, Value.slice none 0 0] 36))
    gi_wp2_with fail
    clear k0 k1 k2
    obtain ⟨ob, hob⟩ : ∃ ob, ob = w1.heap.size := ⟨_, rfl⟩
    obtain ⟨w4, hw4⟩ : ∃ w4, w4 = w1.alloc (Obj.cells #[Value.slice none 0 0, Value.slice none 0 0, Value.slice none 0 0] 36) := ⟨_, rfl⟩
    have Z4 : w4.heap.size = ob + 1 := by rw [hw4, hob]; simp
    have S4 : St w4 ob ob (Value.slice none 0 0) (Value.slice none 0 0) (Value.slice none 0 0) [] [] [] := by rw [hw4, hob]; exact (Own3.nil _ _).St (Nat.le_refl _) (Blk.new _ _ _)
    have B4 : Below ob w1 w4 := by rw [hw4, hob]; exact (Below.refl _ _).alloc (Nat.le_refl _) _
    rw [← hw4]
    refine ⟨trivial, (back_in Fence.wide 2 trivial rfl _ _ _ _).mono ?_⟩
    rintro e w5 ⟨rfl, hw5⟩
    have hB5 : Below w4.heap.size w4 w5 := by rw [hw5]; exact (Below.refl _ _).alloc (Nat.le_refl _) _
    have Z5 : w5.heap.size = ob + 2 := by rw [hw5]; simp; omega
    have X5 : Blk w5 w4.heap.size #[Value.slice a1 A.length a3] 22 := by rw [hw5]; exact Blk.new _ _ _
    have S5 := S4.later hB5
    have B5 : Below ob w1 w5 := B4.trans (hB5.mono (by omega))
    obtain ⟨Bs, hBs⟩ : ∃ Bs, Bs = w4.heap.size := ⟨_, rfl⟩
    rw [← hBs] at X5 ⊢
    have hne : Bs ≠ ob := by omega
    have hb5 : Bs < w5.heap.size := by omega
    have hpos : 0 < A.length := by have := H1.out; omega
    rw [← hob] at HS1
    have HF5 : FS w5 (Value.slice a1 A.length a3) A := (FA.out.later HB.out).later (by rw [← hob]; exact B5)
    clear hw4 hw5 hBs hB5 S4 B4
    gi_wp2_with fail
    rw [← hob]
    have HOB := Lib.hid hob
    clear hob
    refine wpIn_rangeFunc_ownG (F := Fence.wide) (n := 3) rfl (by decide) (gf := 96) (lb := #[.pointer (some ⟨Bs, 0, none⟩)]) rfl trivial (enters_of Try.func96 (by kernel_rfl) rfl)
      (back_stops Fence.wide 2 trivial rfl (by decide) Bs ob (Value.slice a1 A.length a3) A hpos (by have := H2.out; omega) w5 hb5 (X5.cell 0) HF5 ?hB) (fun h k => h.trans k) (fun W l o o' hl h h1 h2 => KB.put (w := w5) (by omega) hb5 W l o o' hl h h1 h2) (Below.refl _ _) (fun _ => by rfl)
      (fun pre W => (∃ a l d, St W ob ob a l d (pre.map fun x => Go.Op.negFloat .f32 (nth A x.val)) (pre.map fun x => Go.Op.negFloat .f32 (nth L x.val)) (pre.map fun x => nth D x.val)) ∧ Blk W Bs #[Value.slice a1 A.length a3] 22 ∧ Below ob w1 W)
      (fun _ _ _ => False)
      (OwnFrom.and (Own.from (fun s X Y row hs hg hr => by obtain ⟨a, l, d, h⟩ := hs; exact ⟨a, l, d, h.still hg hr⟩) _) (OwnFrom.and (Own.from (fun s X Y row hs hg hr => hs.kept hg (hs.not hr)) _) (ownFrom_below (Nat.le_of_eq HOB.out) (by omega))))
      (fun _ _ _ _ _ hs _ _ => hs)
      ⟨⟨_, _, _, S5⟩, X5, B5⟩
      (fun x => { tmps := #[Value.agg #[Value.slice a1 A.length a3, Value.slice l1 L.length l3, Value.slice d1 D.length d3], Value.pointer (some ⟨pb, 0, none⟩), Value.pointer (some ⟨pb + 1, 0, none⟩), Value.bool false, Value.pointer (some ⟨ob, 0, none⟩), Value.int .i64 ((x.val : Nat) : Int), Value.float .f32 (nth A x.val), Value.agg #[Value.slice a1 A.length a3, Value.slice l1 L.length l3, Value.slice d1 D.length d3], Value.bool true, Value.bool false, undef, Value.agg #[Value.slice none 0 0, Value.slice none 0 0, Value.slice none 0 0], Value.pointer (some ⟨pb, 0, none⟩), Value.slice a1 A.length a3, Value.func (.func 96) #[] #[.pointer (some ⟨Bs, 0, none⟩)], Value.int .i64 ((x.val : Nat) : Int), Value.float .f32 (nth A x.val), undef, undef, undef, undef, undef, undef, undef, undef, undef, undef, undef, undef, undef, undef, undef, undef, undef, undef, undef, undef, undef, undef, undef, undef, undef, undef, undef, undef, undef], defers := [] }) ?assign ?body ?done ?stop
    case hB =>
      intro b off l c he
      obtain ⟨a, len, cap, he', _, _, h⟩ := FA.out
      rcases h with h | ⟨b', off', rfl, hb', _⟩
      · omega
      · cases he
        cases he'
        have := HS1.out; have := HPB.out; omega
    case assign =>
      intro l x W K hK
      gi_wp2
      exact hK
    case stop =>
      rintro D c pre W _ _ h _
      exact h.elim
    case body =>
      rintro l pre ⟨k, hk⟩ W ⟨⟨va, vl, vd, hst⟩, hbx, hbr⟩ hlen
      have eA : (pre ++ [(⟨k, hk⟩ : Fin A.length)]).map (fun x => Go.Op.negFloat .f32 (nth A x.val)) = (pre.map fun x => Go.Op.negFloat .f32 (nth A x.val)) ++ [Go.Op.negFloat .f32 (nth A k)] := by simp
      have eL : (pre ++ [(⟨k, hk⟩ : Fin A.length)]).map (fun x => Go.Op.negFloat .f32 (nth L x.val)) = (pre.map fun x => Go.Op.negFloat .f32 (nth L x.val)) ++ [Go.Op.negFloat .f32 (nth L k)] := by simp
      have eD : (pre ++ [(⟨k, hk⟩ : Fin A.length)]).map (fun x => nth D x.val) = (pre.map fun x => nth D x.val) ++ [nth D k] := by simp
      have HNE := Lib.hid hne
      have HSZ : Hid (ob ≤ W.heap.size) := Lib.hid (Nat.le_of_lt (Nat.lt_of_le_of_lt hst.bB hst.blk.lt))
      have NL : Hid ((pre.map fun x => Go.Op.negFloat .f32 (nth A x.val)).length ≤ 1000 ∧ (pre.map fun x => Go.Op.negFloat .f32 (nth L x.val)).length ≤ 1000 ∧ (pre.map fun x => nth D x.val).length ≤ 1000) := Lib.hid (by have := H2.out; simp only [List.length_map]; omega)
      obtain ⟨bl, ol, rfl, hbl, hL⟩ := CL.out k (by have := H3.out; omega)
      obtain ⟨bd, od, rfl, hbd, hD⟩ := CD.out k (by have := H4.out; omega)
      have GL : Hid (w1.cell? ⟨bl, ol + k, none⟩ = some (.float .f32 (nth L k)) ∧ bl < ob) := Lib.hid ⟨(HB.out.cell (p := ⟨bl, ol + k, none⟩) hbl).trans (by rw [hL, nth_getD]), by have := HS1.out; have := HPB.out; omega⟩
      have GD : Hid (w1.cell? ⟨bd, od + k, none⟩ = some (.float .f32 (nth D k)) ∧ bd < ob) := Lib.hid ⟨(HB.out.cell (p := ⟨bd, od + k, none⟩) hbd).trans (by rw [hD, nth_getD]), by have := HS1.out; have := HPB.out; omega⟩
      have GP : Hid (w1.cell? ⟨pb, 1, none⟩ = some (.slice (some ⟨bl, ol, none⟩) L.length l3) ∧ w1.cell? ⟨pb, 2, none⟩ = some (.slice (some ⟨bd, od, none⟩) D.length d3) ∧ pb < ob) := Lib.hid ⟨K1.out.cell 1, K1.out.cell 2, by have := HS1.out; omega⟩
      have q4 : (A.length : Int) ≤ 24 := by have := H2.out; omega
      have q1 : (k : Int) < L.length := by have := H3.out; omega
      have q2 : (k : Int) < D.length := by have := H4.out; omega
      have q3 : (0 : Int) ≤ (k : Int) := by omega
      have HEQ := Lib.hid (And.intro eA (And.intro eL eD))
      have HST := Lib.hid hst; have HBX := Lib.hid hbx; have HBR := Lib.hid hbr
      clear hL hD hbl hbd eA eL eD hst hbx hbr hlen S5 X5 B5 HF5 hne CA CL CD
      dsimp only
      generalize nth A k = za at *
      generalize nth L k = zl at *
      generalize nth D k = zd at *
      generalize (pre.map fun x => Go.Op.negFloat .f32 (nth A x.val)) = XA at *
      generalize (pre.map fun x => Go.Op.negFloat .f32 (nth L x.val)) = XL at *
      generalize (pre.map fun x => nth D x.val) = XD at *
      obtain ⟨p1, q1', r1, rfl⟩ := own_shape HST.out.ol
      obtain ⟨p2, q2', r2, rfl⟩ := own_shape HST.out.od
      have m0 := NL.out.1
      have c0 : W.cell? ⟨ob, 0, none⟩ = some va := HST.out.blk.cell 0
      gi_wp2_with (gi_at_builtin; refine wpListIn_append_own_at _ rfl _ _ 22 rfl ob 23 i0 (.float .f32 0) 1 4 Try.underlying22 hi hz0 hz1 hz2 rfl (by decide) _ _ _ rfl (HST.out.oa.alloc _) _ 1 1 [.float .f32 (Go.Op.negFloat .f32 za)] rfl rfl (by have := cell_one_new W (.float .f32 (Go.Op.negFloat .f32 za)) 23; simpa using this) (fun u hu => by simp at hu; subst hu; rfl) (by unfold maxLen; omega) (by omega) (by have := HSZ.out; simp; omega) ?_)
      intro v0 w2 ho hg _ hat
      obtain ⟨p0, q0', r0, rfl⟩ := own_shape ho
      have hb1 : Below W.heap.size W (W.alloc (.cells #[.float .f32 (Go.Op.negFloat .f32 za)] 23)) := (Below.refl _ _).alloc (Nat.le_refl _) _
      have S1 := HST.out.later hb1
      have KB1 : Blk w2 ob #[va, .slice p1 q1' r1, .slice p2 q2' r2] 36 := S1.blk.kept hg (own_ne_box S1.oa S1.blk)
      clear c0
      have c0 : w2.cell? ⟨ob, 0, none⟩ = some va := KB1.cell 0
      have f0 : w2.frozen? ⟨ob, 0, none⟩ = false := KB1.free 0
      have S6 := HST.out.putA hb1 ho hg (by simpa using hat)
      have B6 := HST.out.below (i := 0) (v' := (.slice p0 q0' r0)) HBR.out HSZ.out hb1 HST.out.oa hg
      have B7 := HST.out.below (i := 0) (v' := (.slice p0 q0' r0)) (Below.refl _ _) HSZ.out hb1 HST.out.oa hg
      have Z6 : ob ≤ (w2.setCell ⟨ob, 0, none⟩ (.slice p0 q0' r0)).heap.size := by have := HSZ.out; have := hg.size; have := hb1.size; simp [World.setCell] at *; omega
      have X6 : Blk (w2.setCell ⟨ob, 0, none⟩ (.slice p0 q0' r0)) Bs #[Value.slice a1 A.length a3] 22 := ((HBX.out.alloc _).kept hg (own_ne_sbox S1.oa (HBX.out.alloc _))).other HNE.out 0 _
      have O6 : KeepsOthers W (w2.setCell ⟨ob, 0, none⟩ (.slice p0 q0' r0)) := ((KeepsOthers.alloc _ _).trans (own_keeps S1.oa hg)).trans (.setCell _ _ _)
      have hd : Below (w2.setCell ⟨ob, 0, none⟩ (.slice p0 q0' r0)).heap.size (w2.setCell ⟨ob, 0, none⟩ (.slice p0 q0' r0)) (w2.setCell ⟨ob, 0, none⟩ (.slice p0 q0' r0)).drew := below_dn (Below.refl _ _) 1
      have M0 : Hid (Mik W Bs (Value.slice a1 A.length a3) (w2.setCell ⟨ob, 0, none⟩ (.slice p0 q0' r0)).drew ob ob w1 (Value.slice p0 q0' r0) (Value.slice p1 q1' r1) (Value.slice p2 q2' r2) (Value.slice p0 q0' r0) (Value.slice p1 q1' r1) (Value.slice p2 q2' r2) (XA ++ [Go.Op.negFloat .f32 za]) XL XD) := Lib.hid ⟨(S6.mid B6 Z6).later hd, O6.trans (.drew _), B7.trans (hd.mono Z6), X6.later hd⟩
      clear S1 S6 B6 B7 Z6 X6 O6 hd ho hg hat hb1 KB1 HST HBR HSZ
      gi_wp2_with fail
      clear c0 f0
      generalize w2.setCell ⟨ob, 0, none⟩ (.slice p0 q0' r0) = w6 at *
      obtain ⟨sv, hsv⟩ : ∃ sv, sv = Value.slice a1 A.length a3 := ⟨_, rfl⟩
      rw [← hsv] at M0 HBX
      have HSV := Lib.hid hsv
      clear hsv
      have SF : Hid (∀ (w' : World) (a l d : Value) (A' L' D' : List Nat), Mik W Bs sv w' ob ob w1 (Value.slice p0 q0' r0) (Value.slice p1 q1' r1) (Value.slice p2 q2' r2) a l d A' L' D' → w'.cell? ⟨ob, 1, none⟩ = some (Value.slice p1 q1' r1) ∧ w'.cell? ⟨ob, 2, none⟩ = some (Value.slice p2 q2' r2) ∧ w'.cell? ⟨pb, 1, none⟩ = some (Value.slice (some ⟨bl, ol, none⟩) L.length l3) ∧ w'.cell? ⟨pb, 2, none⟩ = some (Value.slice (some ⟨bd, od, none⟩) D.length d3) ∧ w'.cell? ⟨bl, ol + k, none⟩ = some (Value.float FloatKind.f32 zl) ∧ w'.cell? ⟨bd, od + k, none⟩ = some (Value.float FloatKind.f32 zd)) := Lib.hid fun w' a l d A' L' D' hm => ⟨hm.blk.cell 1, hm.blk.cell 2, (hm.bel.cell (p := ⟨pb, 1, none⟩) GP.out.2.2).trans GP.out.1, (hm.bel.cell (p := ⟨pb, 2, none⟩) GP.out.2.2).trans GP.out.2.1, (hm.bel.cell (p := ⟨bl, ol + k, none⟩) GL.out.2).trans GL.out.1, (hm.bel.cell (p := ⟨bd, od + k, none⟩) GD.out.2).trans GD.out.1⟩
      have hS0 := SF.out _ _ _ _ _ _ _ M0.out
      have m1 := NL.out.2.1; have m2 := NL.out.2.2
      refine region_round (m := 23) (S := fun w' => w'.cell? ⟨ob, 1, none⟩ = some (Value.slice p1 q1' r1) ∧ w'.cell? ⟨ob, 2, none⟩ = some (Value.slice p2 q2' r2) ∧ w'.cell? ⟨pb, 1, none⟩ = some (Value.slice (some ⟨bl, ol, none⟩) L.length l3) ∧ w'.cell? ⟨pb, 2, none⟩ = some (Value.slice (some ⟨bd, od, none⟩) D.length d3) ∧ w'.cell? ⟨bl, ol + k, none⟩ = some (Value.float FloatKind.f32 zl) ∧ w'.cell? ⟨bd, od + k, none⟩ = some (Value.float FloatKind.f32 zd)) (ds := [20, 22]) #[false, false, false, false, false, false, false, false, false, false, false, false, false, false, false, false, false, false, false, false, false, false, false] (by kernel_rfl) (by kernel_rfl) rfl rfl ⟨hS0.1, hS0.2.1, hS0.2.2.1, hS0.2.2.2.1, hS0.2.2.2.2.1, hS0.2.2.2.2.2⟩ (fun hHeld => ?_)
      refine pure_ (i := 0) (N := some 24) (v := ?_) (a' := ?_) #[true, false, false, false, false, false, false, false, false, false, false, false, false, false, false, false, false, false, false, false, false, false, false] rfl rfl (by kernel_rfl) (fun _ _ _ h => h) (Or.inl ⟨by rfl, ?_⟩) ?_ ?_
      rotate_left
      · intro w'
        go_simp
        with_reducible rfl
      rotate_left
      · simp only [Act.put, List.setIfInBounds_toArray, List.set_cons_zero, List.set_cons_succ]
        rfl
      refine pure_ (i := 2) (N := some 26) (v := ?_) (a' := ?_) #[true, false, true, false, false, false, false, false, false, false, false, false, false, false, false, false, false, false, false, false, false, false, false] rfl rfl (by kernel_rfl) (fun _ _ _ h => h) (Or.inl ⟨by rfl, ?_⟩) ?_ ?_
      rotate_left
      · intro w'
        go_simp
        with_reducible rfl
      rotate_left
      · simp only [Act.put, List.setIfInBounds_toArray, List.set_cons_zero, List.set_cons_succ]
        rfl
      refine pure_ (i := 4) (N := some 28) (v := ?_) (a' := ?_) #[true, false, true, false, true, false, false, false, false, false, false, false, false, false, false, false, false, false, false, false, false, false, false] rfl rfl (by kernel_rfl) (fun _ _ _ h => h) (Or.inl ⟨by rfl, ?_⟩) ?_ ?_
      rotate_left
      · intro w'
        go_simp
        with_reducible rfl
      rotate_left
      · simp only [Act.put, List.setIfInBounds_toArray, List.set_cons_zero, List.set_cons_succ]
        rfl
      refine pure_ (i := 10) (N := some 34) (v := ?_) (a' := ?_) #[true, false, true, false, true, false, false, false, false, false, true, false, false, false, false, false, false, false, false, false, false, false, false] rfl rfl (by kernel_rfl) (fun _ _ _ h => h) (Or.inl ⟨by rfl, ?_⟩) ?_ ?_
      rotate_left
      · intro w'
        go_simp
        with_reducible rfl
      rotate_left
      · simp only [Act.put, List.setIfInBounds_toArray, List.set_cons_zero, List.set_cons_succ]
        rfl
      refine pure_ (i := 12) (N := some 36) (v := ?_) (a' := ?_) #[true, false, true, false, true, false, false, false, false, false, true, false, true, false, false, false, false, false, false, false, false, false, false] rfl rfl (by kernel_rfl) (fun _ _ _ h => h) (Or.inl ⟨by rfl, ?_⟩) ?_ ?_
      rotate_left
      · intro w'
        go_simp
        with_reducible rfl
      rotate_left
      · simp only [Act.put, List.setIfInBounds_toArray, List.set_cons_zero, List.set_cons_succ]
        rfl
      refine pure_ (i := 14) (N := some 38) (v := ?_) (a' := ?_) #[true, false, true, false, true, false, false, false, false, false, true, false, true, false, true, false, false, false, false, false, false, false, false] rfl rfl (by kernel_rfl) (fun _ _ _ h => h) (Or.inl ⟨by rfl, ?_⟩) ?_ ?_
      rotate_left
      · intro w'
        go_simp
        with_reducible rfl
      rotate_left
      · simp only [Act.put, List.setIfInBounds_toArray, List.set_cons_zero, List.set_cons_succ]
        rfl
      refine take_ (i := 1) (N := some 25) (v := ?_) (a' := ?_) #[true, true, true, false, true, false, false, false, false, false, true, false, true, false, true, false, false, false, false, false, false, false, false] rfl rfl (by kernel_rfl) (fun _ _ _ h => h) (Or.inl ⟨by rfl, ?_⟩) hHeld ?_ ?_
      rotate_left
      · rintro w' ⟨s0, s1, s2, s3, s4, s5⟩
        go_simp
        with_reducible rfl
      rotate_left
      · simp only [Act.put, List.setIfInBounds_toArray, List.set_cons_zero, List.set_cons_succ]
        rfl
      refine take_ (i := 3) (N := some 27) (v := ?_) (a' := ?_) #[true, true, true, true, true, false, false, false, false, false, true, false, true, false, true, false, false, false, false, false, false, false, false] rfl rfl (by kernel_rfl) (fun _ _ _ h => h) (Or.inl ⟨by rfl, ?_⟩) hHeld ?_ ?_
      rotate_left
      · rintro w' ⟨s0, s1, s2, s3, s4, s5⟩
        go_simp
        with_reducible rfl
      rotate_left
      · simp only [Act.put, List.setIfInBounds_toArray, List.set_cons_zero, List.set_cons_succ]
        rfl
      refine pure_ (i := 5) (N := some 29) (v := ?_) (a' := ?_) #[true, true, true, true, true, true, false, false, false, false, true, false, true, false, true, false, false, false, false, false, false, false, false] rfl rfl (by kernel_rfl) (fun _ _ _ h => h) (Or.inl ⟨by rfl, ?_⟩) ?_ ?_
      rotate_left
      · intro w'
        go_simp
        with_reducible rfl
      rotate_left
      · simp only [Act.put, List.setIfInBounds_toArray, List.set_cons_zero, List.set_cons_succ]
        rfl
      refine take_ (i := 6) (N := some 30) (v := ?_) (a' := ?_) #[true, true, true, true, true, true, true, false, false, false, true, false, true, false, true, false, false, false, false, false, false, false, false] rfl rfl (by kernel_rfl) (fun _ _ _ h => h) (Or.inl ⟨by rfl, ?_⟩) hHeld ?_ ?_
      rotate_left
      · rintro w' ⟨s0, s1, s2, s3, s4, s5⟩
        go_simp
        with_reducible rfl
      rotate_left
      · simp only [Act.put, List.setIfInBounds_toArray, List.set_cons_zero, List.set_cons_succ]
        rfl
      refine pure_ (i := 7) (N := some 31) (v := ?_) (a' := ?_) #[true, true, true, true, true, true, true, true, false, false, true, false, true, false, true, false, false, false, false, false, false, false, false] rfl rfl (by kernel_rfl) (fun _ _ _ h => h) (Or.inl ⟨by rfl, ?_⟩) ?_ ?_
      rotate_left
      · intro w'
        go_simp
        with_reducible rfl
      rotate_left
      · simp only [Act.put, List.setIfInBounds_toArray, List.set_cons_zero, List.set_cons_succ]
        rfl
      refine take_ (i := 11) (N := some 35) (v := ?_) (a' := ?_) #[true, true, true, true, true, true, true, true, false, false, true, true, true, false, true, false, false, false, false, false, false, false, false] rfl rfl (by kernel_rfl) (fun _ _ _ h => h) (Or.inl ⟨by rfl, ?_⟩) hHeld ?_ ?_
      rotate_left
      · rintro w' ⟨s0, s1, s2, s3, s4, s5⟩
        go_simp
        with_reducible rfl
      rotate_left
      · simp only [Act.put, List.setIfInBounds_toArray, List.set_cons_zero, List.set_cons_succ]
        rfl
      refine take_ (i := 13) (N := some 37) (v := ?_) (a' := ?_) #[true, true, true, true, true, true, true, true, false, false, true, true, true, true, true, false, false, false, false, false, false, false, false] rfl rfl (by kernel_rfl) (fun _ _ _ h => h) (Or.inl ⟨by rfl, ?_⟩) hHeld ?_ ?_
      rotate_left
      · rintro w' ⟨s0, s1, s2, s3, s4, s5⟩
        go_simp
        with_reducible rfl
      rotate_left
      · simp only [Act.put, List.setIfInBounds_toArray, List.set_cons_zero, List.set_cons_succ]
        rfl
      refine pure_ (i := 15) (N := some 39) (v := ?_) (a' := ?_) #[true, true, true, true, true, true, true, true, false, false, true, true, true, true, true, true, false, false, false, false, false, false, false] rfl rfl (by kernel_rfl) (fun _ _ _ h => h) (Or.inl ⟨by rfl, ?_⟩) ?_ ?_
      rotate_left
      · intro w'
        go_simp
        with_reducible rfl
      rotate_left
      · simp only [Act.put, List.setIfInBounds_toArray, List.set_cons_zero, List.set_cons_succ]
        rfl
      refine take_ (i := 16) (N := some 40) (v := ?_) (a' := ?_) #[true, true, true, true, true, true, true, true, false, false, true, true, true, true, true, true, true, false, false, false, false, false, false] rfl rfl (by kernel_rfl) (fun _ _ _ h => h) (Or.inl ⟨by rfl, ?_⟩) hHeld ?_ ?_
      rotate_left
      · rintro w' ⟨s0, s1, s2, s3, s4, s5⟩
        go_simp
        with_reducible rfl
      rotate_left
      · simp only [Act.put, List.setIfInBounds_toArray, List.set_cons_zero, List.set_cons_succ]
        rfl
      refine join_ (σ := Nat × Nat × Nat × Nat) 4 #[true, true, true, true, true, true, true, true, true, true, true, true, true, true, true, true, true, true, false, true, false, false, false] (fun s => [(32, .slice (some ⟨s.1, 0, none⟩) 1 1), (33, (.slice (some ⟨s.2.1, 0, none⟩) (XL.length + 1) s.2.2.1)), (41, .slice (some ⟨s.2.2.2, 0, none⟩) 1 1), (43, .pointer (some ⟨ob, 1, none⟩))]) (fun s w' => Mik W Bs sv w' ob ob w1 (Value.slice p0 q0' r0) (Value.slice p1 q1' r1) (Value.slice p2 q2' r2) (Value.slice p0 q0' r0) (.slice (some ⟨s.2.1, 0, none⟩) (XL.length + 1) s.2.2.1) (Value.slice p2 q2' r2) (XA ++ [Go.Op.negFloat .f32 za]) (XL ++ [(Go.Op.negFloat .f32 zl)]) XD ∧ w'.cell? ⟨s.2.2.2, 0, none⟩ = some (.float .f32 zd)) ?_ ?_
      rotate_left
      · intro hCont
        refine two_ (i := 8) (j := 17) (Ni := some 32) (Nj := some 41) #[true, true, true, true, true, true, true, true, true, false, true, true, true, true, true, true, true, false, false, false, false, false, false] #[true, true, true, true, true, true, true, true, false, false, true, true, true, true, true, true, true, true, false, false, false, false, false] rfl rfl rfl rfl (by kernel_rfl) (by decide) (by decide) (fun K hK => ?_) (fun K hK => ?_)
        · skip
          refine value_ (w1 := ?_) (v := ?_) (by rfl) rfl ?_ ?_
          rotate_left 2
          · go_simp
            constructor
            · rfl
            · rfl
          have M8_ := Lib.hid (M0.out.alloc (Obj.cells #[Value.float FloatKind.f32 (Go.Op.negFloat .f32 zl)] 23))
          have N88_ := Lib.hid (Mik.newCell M0.out (Go.Op.negFloat .f32 zl) (w6.heap.size) (by simp))
          refine hK.out _ _ ⟨(SF.out _ _ _ _ _ _ _ M8_.out).1, (SF.out _ _ _ _ _ _ _ M8_.out).2.1, (SF.out _ _ _ _ _ _ _ M8_.out).2.2.1, (SF.out _ _ _ _ _ _ _ M8_.out).2.2.2.1, (SF.out _ _ _ _ _ _ _ M8_.out).2.2.2.2.1, (SF.out _ _ _ _ _ _ _ M8_.out).2.2.2.2.2⟩ (fun hHeld => ?_)
          clear hK K
          refine norm_ (a' := ?_) ?_ ?_
          rotate_left
          · show Act.put _ (some 32) _ = _
            simp only [Act.put, List.setIfInBounds_toArray, List.set_cons_zero, List.set_cons_succ]
            rfl
          refine two_ (i := 9) (j := 17) (Ni := some 33) (Nj := some 41) #[true, true, true, true, true, true, true, true, true, true, true, true, true, true, true, true, true, false, false, false, false, false, false] #[true, true, true, true, true, true, true, true, true, false, true, true, true, true, true, true, true, true, false, false, false, false, false] rfl rfl rfl rfl (by kernel_rfl) (by decide) (by decide) (fun K hK => ?_) (fun K hK => ?_)
          · skip
            refine step_append_lies _ (by rfl) _ _ _ (by rfl) ob 23 i0 (.float .f32 0) 1 4 Try.underlying22 hi hz0 hz1 hz2 rfl (by decide) _ XL.length _ (by rfl) M8_.out.own.ol _ 1 1 [.float .f32 (Go.Op.negFloat .f32 zl)] (by rfl) rfl (fun j u hj => news_one N88_.out hj) (fun u hu => by simp at hu; subst hu; rfl) (by omega) (by unfold maxLen; omega) (by omega) M8_.out.sz _ rfl ?_
            intro g cap wx8_9_ hown hgrow hat hlt
            have M8_9_ := Lib.hid (M8_.out.appL hown hgrow hat)
            clear hown hgrow hat hlt
            refine hK.out _ _ ⟨(SF.out _ _ _ _ _ _ _ M8_9_.out).1, (SF.out _ _ _ _ _ _ _ M8_9_.out).2.1, (SF.out _ _ _ _ _ _ _ M8_9_.out).2.2.1, (SF.out _ _ _ _ _ _ _ M8_9_.out).2.2.2.1, (SF.out _ _ _ _ _ _ _ M8_9_.out).2.2.2.2.1, (SF.out _ _ _ _ _ _ _ M8_9_.out).2.2.2.2.2⟩ (fun hHeld => ?_)
            clear hK K
            refine norm_ (a' := ?_) ?_ ?_
            rotate_left
            · show Act.put _ (some 33) _ = _
              simp only [Act.put, List.setIfInBounds_toArray, List.set_cons_zero, List.set_cons_succ]
              rfl
            refine pure_ (i := 19) (N := some 43) (v := ?_) (a' := ?_) #[true, true, true, true, true, true, true, true, true, true, true, true, true, true, true, true, true, false, false, true, false, false, false] rfl rfl (by kernel_rfl) (fun _ _ _ h => h) (Or.inl ⟨by rfl, ?_⟩) ?_ ?_
            rotate_left
            · intro w'
              go_simp
              with_reducible rfl
            rotate_left
            · simp only [Act.put, List.setIfInBounds_toArray, List.set_cons_zero, List.set_cons_succ]
              rfl
            refine one_ (i := 17) (N := some 41) #[true, true, true, true, true, true, true, true, true, true, true, true, true, true, true, true, true, true, false, true, false, false, false] rfl rfl (by kernel_rfl) (by decide) (fun K hK => ?_)
            refine value_ (w1 := ?_) (v := ?_) (by rfl) rfl ?_ ?_
            rotate_left 2
            · go_simp
              constructor
              · rfl
              · rfl
            have M8_9_17_ := Lib.hid (M8_9_.out.alloc (Obj.cells #[Value.float FloatKind.f32 zd] 23))
            have N178_9_17_ := Lib.hid (Mik.newCell M8_9_.out zd (wx8_9_.heap.size) (by simp))
            refine hK.out _ _ ⟨(SF.out _ _ _ _ _ _ _ M8_9_17_.out).1, (SF.out _ _ _ _ _ _ _ M8_9_17_.out).2.1, (SF.out _ _ _ _ _ _ _ M8_9_17_.out).2.2.1, (SF.out _ _ _ _ _ _ _ M8_9_17_.out).2.2.2.1, (SF.out _ _ _ _ _ _ _ M8_9_17_.out).2.2.2.2.1, (SF.out _ _ _ _ _ _ _ M8_9_17_.out).2.2.2.2.2⟩ (fun hHeld => ?_)
            clear hK K
            refine norm_ (a' := ?_) ?_ ?_
            rotate_left
            · show Act.put _ (some 41) _ = _
              simp only [Act.put, List.setIfInBounds_toArray, List.set_cons_zero, List.set_cons_succ]
              rfl
            exact norm_ (by first | (simp only [putAll, Act.put, List.setIfInBounds_toArray, List.set_cons_zero, List.set_cons_succ]; done) | (simp only [putAll, Act.put, List.setIfInBounds_toArray, List.set_cons_zero, List.set_cons_succ]; rfl)) (hCont ⟨w6.heap.size, g, cap, wx8_9_.heap.size⟩ _ ⟨M8_9_17_.out, N178_9_17_.out⟩)
          · skip
            refine value_ (w1 := ?_) (v := ?_) (by rfl) rfl ?_ ?_
            rotate_left 2
            · go_simp
              constructor
              · rfl
              · rfl
            have M8_17_ := Lib.hid (M8_.out.alloc (Obj.cells #[Value.float FloatKind.f32 zd] 23))
            have N178_17_ := Lib.hid (Mik.newCell M8_.out zd (w6.heap.size + 1) (by simp))
            have N88_17_ := Lib.hid (Lib.cell?_alloc_some (Obj.cells #[Value.float FloatKind.f32 zd] 23) N88_.out)
            refine hK.out _ _ ⟨(SF.out _ _ _ _ _ _ _ M8_17_.out).1, (SF.out _ _ _ _ _ _ _ M8_17_.out).2.1, (SF.out _ _ _ _ _ _ _ M8_17_.out).2.2.1, (SF.out _ _ _ _ _ _ _ M8_17_.out).2.2.2.1, (SF.out _ _ _ _ _ _ _ M8_17_.out).2.2.2.2.1, (SF.out _ _ _ _ _ _ _ M8_17_.out).2.2.2.2.2⟩ (fun hHeld => ?_)
            clear hK K
            refine norm_ (a' := ?_) ?_ ?_
            rotate_left
            · show Act.put _ (some 41) _ = _
              simp only [Act.put, List.setIfInBounds_toArray, List.set_cons_zero, List.set_cons_succ]
              rfl
            refine one_ (i := 9) (N := some 33) #[true, true, true, true, true, true, true, true, true, true, true, true, true, true, true, true, true, true, false, false, false, false, false] rfl rfl (by kernel_rfl) (by decide) (fun K hK => ?_)
            refine step_append_lies _ (by rfl) _ _ _ (by rfl) ob 23 i0 (.float .f32 0) 1 4 Try.underlying22 hi hz0 hz1 hz2 rfl (by decide) _ XL.length _ (by rfl) M8_17_.out.own.ol _ 1 1 [.float .f32 (Go.Op.negFloat .f32 zl)] (by rfl) rfl (fun j u hj => news_one N88_17_.out hj) (fun u hu => by simp at hu; subst hu; rfl) (by omega) (by unfold maxLen; omega) (by omega) M8_17_.out.sz _ rfl ?_
            intro g cap wx8_17_9_ hown hgrow hat hlt
            have M8_17_9_ := Lib.hid (M8_17_.out.appL hown hgrow hat)
            have N178_17_9_ := Lib.hid (cell_kept N178_17_.out hgrow (Mik.newNe M0.out.own.ol (by simp)))
            clear hown hgrow hat hlt
            refine hK.out _ _ ⟨(SF.out _ _ _ _ _ _ _ M8_17_9_.out).1, (SF.out _ _ _ _ _ _ _ M8_17_9_.out).2.1, (SF.out _ _ _ _ _ _ _ M8_17_9_.out).2.2.1, (SF.out _ _ _ _ _ _ _ M8_17_9_.out).2.2.2.1, (SF.out _ _ _ _ _ _ _ M8_17_9_.out).2.2.2.2.1, (SF.out _ _ _ _ _ _ _ M8_17_9_.out).2.2.2.2.2⟩ (fun hHeld => ?_)
            clear hK K
            refine norm_ (a' := ?_) ?_ ?_
            rotate_left
            · show Act.put _ (some 33) _ = _
              simp only [Act.put, List.setIfInBounds_toArray, List.set_cons_zero, List.set_cons_succ]
              rfl
            refine pure_ (i := 19) (N := some 43) (v := ?_) (a' := ?_) #[true, true, true, true, true, true, true, true, true, true, true, true, true, true, true, true, true, true, false, true, false, false, false] rfl rfl (by kernel_rfl) (fun _ _ _ h => h) (Or.inl ⟨by rfl, ?_⟩) ?_ ?_
            rotate_left
            · intro w'
              go_simp
              with_reducible rfl
            rotate_left
            · simp only [Act.put, List.setIfInBounds_toArray, List.set_cons_zero, List.set_cons_succ]
              rfl
            exact norm_ (by first | (simp only [putAll, Act.put, List.setIfInBounds_toArray, List.set_cons_zero, List.set_cons_succ]; done) | (simp only [putAll, Act.put, List.setIfInBounds_toArray, List.set_cons_zero, List.set_cons_succ]; rfl)) (hCont ⟨w6.heap.size, g, cap, w6.heap.size + 1⟩ _ ⟨M8_17_9_.out, N178_17_9_.out⟩)
        · skip
          refine value_ (w1 := ?_) (v := ?_) (by rfl) rfl ?_ ?_
          rotate_left 2
          · go_simp
            constructor
            · rfl
            · rfl
          have M17_ := Lib.hid (M0.out.alloc (Obj.cells #[Value.float FloatKind.f32 zd] 23))
          have N1717_ := Lib.hid (Mik.newCell M0.out zd (w6.heap.size) (by simp))
          refine hK.out _ _ ⟨(SF.out _ _ _ _ _ _ _ M17_.out).1, (SF.out _ _ _ _ _ _ _ M17_.out).2.1, (SF.out _ _ _ _ _ _ _ M17_.out).2.2.1, (SF.out _ _ _ _ _ _ _ M17_.out).2.2.2.1, (SF.out _ _ _ _ _ _ _ M17_.out).2.2.2.2.1, (SF.out _ _ _ _ _ _ _ M17_.out).2.2.2.2.2⟩ (fun hHeld => ?_)
          clear hK K
          refine norm_ (a' := ?_) ?_ ?_
          rotate_left
          · show Act.put _ (some 41) _ = _
            simp only [Act.put, List.setIfInBounds_toArray, List.set_cons_zero, List.set_cons_succ]
            rfl
          refine one_ (i := 8) (N := some 32) #[true, true, true, true, true, true, true, true, true, false, true, true, true, true, true, true, true, true, false, false, false, false, false] rfl rfl (by kernel_rfl) (by decide) (fun K hK => ?_)
          refine value_ (w1 := ?_) (v := ?_) (by rfl) rfl ?_ ?_
          rotate_left 2
          · go_simp
            constructor
            · rfl
            · rfl
          have M17_8_ := Lib.hid (M17_.out.alloc (Obj.cells #[Value.float FloatKind.f32 (Go.Op.negFloat .f32 zl)] 23))
          have N817_8_ := Lib.hid (Mik.newCell M17_.out (Go.Op.negFloat .f32 zl) (w6.heap.size + 1) (by simp))
          have N1717_8_ := Lib.hid (Lib.cell?_alloc_some (Obj.cells #[Value.float FloatKind.f32 (Go.Op.negFloat .f32 zl)] 23) N1717_.out)
          refine hK.out _ _ ⟨(SF.out _ _ _ _ _ _ _ M17_8_.out).1, (SF.out _ _ _ _ _ _ _ M17_8_.out).2.1, (SF.out _ _ _ _ _ _ _ M17_8_.out).2.2.1, (SF.out _ _ _ _ _ _ _ M17_8_.out).2.2.2.1, (SF.out _ _ _ _ _ _ _ M17_8_.out).2.2.2.2.1, (SF.out _ _ _ _ _ _ _ M17_8_.out).2.2.2.2.2⟩ (fun hHeld => ?_)
          clear hK K
          refine norm_ (a' := ?_) ?_ ?_
          rotate_left
          · show Act.put _ (some 32) _ = _
            simp only [Act.put, List.setIfInBounds_toArray, List.set_cons_zero, List.set_cons_succ]
            rfl
          refine one_ (i := 9) (N := some 33) #[true, true, true, true, true, true, true, true, true, true, true, true, true, true, true, true, true, true, false, false, false, false, false] rfl rfl (by kernel_rfl) (by decide) (fun K hK => ?_)
          refine step_append_lies _ (by rfl) _ _ _ (by rfl) ob 23 i0 (.float .f32 0) 1 4 Try.underlying22 hi hz0 hz1 hz2 rfl (by decide) _ XL.length _ (by rfl) M17_8_.out.own.ol _ 1 1 [.float .f32 (Go.Op.negFloat .f32 zl)] (by rfl) rfl (fun j u hj => news_one N817_8_.out hj) (fun u hu => by simp at hu; subst hu; rfl) (by omega) (by unfold maxLen; omega) (by omega) M17_8_.out.sz _ rfl ?_
          intro g cap wx17_8_9_ hown hgrow hat hlt
          have M17_8_9_ := Lib.hid (M17_8_.out.appL hown hgrow hat)
          have N1717_8_9_ := Lib.hid (cell_kept N1717_8_.out hgrow (Mik.newNe M0.out.own.ol (by simp)))
          clear hown hgrow hat hlt
          refine hK.out _ _ ⟨(SF.out _ _ _ _ _ _ _ M17_8_9_.out).1, (SF.out _ _ _ _ _ _ _ M17_8_9_.out).2.1, (SF.out _ _ _ _ _ _ _ M17_8_9_.out).2.2.1, (SF.out _ _ _ _ _ _ _ M17_8_9_.out).2.2.2.1, (SF.out _ _ _ _ _ _ _ M17_8_9_.out).2.2.2.2.1, (SF.out _ _ _ _ _ _ _ M17_8_9_.out).2.2.2.2.2⟩ (fun hHeld => ?_)
          clear hK K
          refine norm_ (a' := ?_) ?_ ?_
          rotate_left
          · show Act.put _ (some 33) _ = _
            simp only [Act.put, List.setIfInBounds_toArray, List.set_cons_zero, List.set_cons_succ]
            rfl
          refine pure_ (i := 19) (N := some 43) (v := ?_) (a' := ?_) #[true, true, true, true, true, true, true, true, true, true, true, true, true, true, true, true, true, true, false, true, false, false, false] rfl rfl (by kernel_rfl) (fun _ _ _ h => h) (Or.inl ⟨by rfl, ?_⟩) ?_ ?_
          rotate_left
          · intro w'
            go_simp
            with_reducible rfl
          rotate_left
          · simp only [Act.put, List.setIfInBounds_toArray, List.set_cons_zero, List.set_cons_succ]
            rfl
          exact norm_ (by first | (simp only [putAll, Act.put, List.setIfInBounds_toArray, List.set_cons_zero, List.set_cons_succ]; done) | (simp only [putAll, Act.put, List.setIfInBounds_toArray, List.set_cons_zero, List.set_cons_succ]; rfl)) (hCont ⟨w6.heap.size + 1, g, cap, w6.heap.size⟩ _ ⟨M17_8_9_.out, N1717_8_9_.out⟩)
      rintro ⟨sb, sg, sc, sd⟩ wj ⟨hm, hn⟩
      dsimp only at hm hn
      have MJ := Lib.hid hm; have NJ := Lib.hid hn
      clear hm hn
      have hHeld := SF.out _ _ _ _ _ _ _ MJ.out
      refine norm_ (a' := ?_) ?_ ?_
      rotate_left
      · simp only [putAll, Act.put, List.setIfInBounds_toArray, List.set_cons_zero, List.set_cons_succ]
        rfl
      refine one_ (i := 18) (N := some 42) #[true, true, true, true, true, true, true, true, true, true, true, true, true, true, true, true, true, true, true, true, false, false, false] rfl rfl (by kernel_rfl) (by decide) (fun K hK => ?_)
      refine step_append_lies _ (by rfl) _ _ _ (by rfl) ob 23 i0 (.float .f32 0) 1 4 Try.underlying22 hi hz0 hz1 hz2 rfl (by decide) _ XD.length _ (by rfl) MJ.out.own.od _ 1 1 [.float .f32 zd] (by rfl) rfl (fun j u hj => news_one NJ.out hj) (fun u hu => by simp at hu; subst hu; rfl) (by omega) (by unfold maxLen; omega) (by omega) MJ.out.sz _ rfl ?_
      intro g2 cap2 wk hown hgrow hat hlt
      have MK := Lib.hid (MJ.out.appD hown hgrow hat)
      clear hown hgrow hat hlt
      obtain ⟨⟨o0, o1, o2⟩, e0, e1, e2⟩ := cells3 MK.out.blk
      refine hK.out _ _ ⟨(SF.out _ _ _ _ _ _ _ MK.out).1, (SF.out _ _ _ _ _ _ _ MK.out).2.1, (SF.out _ _ _ _ _ _ _ MK.out).2.2.1, (SF.out _ _ _ _ _ _ _ MK.out).2.2.2.1, (SF.out _ _ _ _ _ _ _ MK.out).2.2.2.2.1, (SF.out _ _ _ _ _ _ _ MK.out).2.2.2.2.2⟩ (fun hHeld => ?_)
      clear hK K
      refine norm_ (a' := ?_) ?_ ?_
      rotate_left
      · show Act.put _ (some 42) _ = _
        simp only [Act.put, List.setIfInBounds_toArray, List.set_cons_zero, List.set_cons_succ]
        rfl
      refine last_ (i := 20) (N := none) #[true, true, true, true, true, true, true, true, true, true, true, true, true, true, true, true, true, true, true, true, true, false, false] rfl rfl (by kernel_rfl) (by decide) (fun K hK => ?_)
      refine skip_ (w1 := ?_) (by rfl) rfl ?_ ?_
      rotate_left
      · go_simp
        rfl
      refine hK.out _ _ ?_
      clear hK K
      refine pure_ (i := 21) (N := some 44) (v := ?_) (a' := ?_) #[true, true, true, true, true, true, true, true, true, true, true, true, true, true, true, true, true, true, true, true, true, true, false] rfl rfl (by kernel_rfl) (fun _ _ _ h => h) (Or.inl ⟨by rfl, ?_⟩) ?_ ?_
      rotate_left
      · intro w'
        go_simp
        with_reducible rfl
      rotate_left
      · simp only [Act.put, List.setIfInBounds_toArray, List.set_cons_zero, List.set_cons_succ]
        rfl
      refine last_ (i := 22) (N := none) #[true, true, true, true, true, true, true, true, true, true, true, true, true, true, true, true, true, true, true, true, true, true, true] rfl rfl (by kernel_rfl) (by decide) (fun K hK => ?_)
      refine skip_ (w1 := ?_) (by rfl) rfl ?_ ?_
      rotate_left
      · go_simp
        rfl
      refine hK.out _ _ ?_
      clear hK K
      refine done_ (by kernel_rfl) ?_
      refine ⟨rfl, ?_⟩
      obtain ⟨e1, e2, e3⟩ := MK.out.done2 HNE.out (Value.slice (some ⟨sg, 0, none⟩) (XL.length + 1) sc) (Value.slice (some ⟨g2, 0, none⟩) (XD.length + 1) cap2)
      obtain ⟨d1, d2, _⟩ := MK.out.toMid.done
      rw [← HEQ.out.1, ← HEQ.out.2.1, ← HEQ.out.2.2] at d1
      refine And.intro (e1.from _) (And.intro (KB.of e3 HBX.out e2) (And.intro ⟨_, _, _, d1⟩ (And.intro (by rw [← HSV.out]; exact e2) d2)))
    case done =>
      rintro DD ys W hD rfl ⟨⟨va, vl, vd, hst⟩, hbx, hbr⟩ hK
      rw [map_upto, map_upto, map_upto, show (fun i => Go.Op.negFloat .f32 (nth A (bk A.length hpos i).val)) = ngAt A A.length from funext fun i => by rw [nth_getD]; rfl, show (fun i => Go.Op.negFloat .f32 (nth L (bk A.length hpos i).val)) = ngAt L A.length from funext fun i => by rw [nth_getD]; rfl, show (fun i => nth D (bk A.length hpos i).val) = psAt D A.length from funext fun i => by rw [nth_getD]; rfl] at hst
      have KR : Blk W (pb + 1) #[Value.slice none 0 0, Value.slice none 0 0, Value.slice none 0 0] 36 := K2.out.keep hbr (by have := HS1.out; omega)
      have HBT : Below w.heap.size w W := HB.out.trans (hbr.mono (by have := HS1.out; have := HPB.out; omega))
      obtain ⟨⟨r0, r1, r2⟩, f0, f1, f2⟩ := cells3 KR
      obtain ⟨x4, y4, z4, rfl⟩ := own_shape hst.oa
      obtain ⟨x5, y5, z5, rfl⟩ := own_shape hst.ol
      obtain ⟨x6, y6, z6, rfl⟩ := own_shape hst.od
      obtain ⟨⟨o0, o1, o2⟩, _⟩ := cells3 hst.blk
      have HO : Own3 W w.heap.size (Value.slice x4 y4 z4) (Value.slice x5 y5 z5) (Value.slice x6 y6 z6) _ _ _ := hst.own3.base (by have := HS1.out; have := HPB.out; omega)
      have KW := set3_blk KR (Value.slice x4 y4 z4) (Value.slice x5 y5 z5) (Value.slice x6 y6 z6)
      have HBW := set3_below (b := pb + 1) HBT (by have := HPB.out; omega) (Value.slice x4 y4 z4) (Value.slice x5 y5 z5) (Value.slice x6 y6 z6)
      have HOW := set3_own HO KR (Value.slice x4 y4 z4) (Value.slice x5 y5 z5) (Value.slice x6 y6 z6)
      have hK' : (set3 W (pb + 1) (Value.slice x4 y4 z4) (Value.slice x5 y5 z5) (Value.slice x6 y6 z6)).heap[DD]? = some (.deferred (some [])) := (((KeepsOthers.setCell W ⟨pb + 1, 0, none⟩ (Value.slice x4 y4 z4)).trans (.setCell _ ⟨pb + 1, 1, none⟩ (Value.slice x5 y5 z5))).trans (.setCell _ ⟨pb + 1, 2, none⟩ (Value.slice x6 y6 z6))).same DD _ hK rfl
      have hG := grownBy_putObj' (set3 W (pb + 1) (Value.slice x4 y4 z4) (Value.slice x5 y5 z5) (Value.slice x6 y6 z6)) DD (.deferred none)
      have hR : ∀ r, some DD = some r → ∃ o : Obj, (set3 W (pb + 1) (Value.slice x4 y4 z4) (Value.slice x5 y5 z5) (Value.slice x6 y6 z6)).heap[r]? = some o ∧ o.isCells = false := fun r e => by cases e; exact ⟨_, hK', rfl⟩
      have KZ := Lib.hid (KW.kept hG (KW.not hR))
      have OZ := Lib.hid (HOW.still hG hR)
      have BZ := Lib.hid (HBW.trans (belowK_b (n₀ := w.heap.size) (w := w5) (by have := HS1.out; have := HPB.out; omega) _ DD _ (.deferred none) hD hK' rfl rfl))
      have HK := Lib.hid hK'
      clear hst hbx hbr hK hK' KR HBT HO KW HBW HOW hG hR hD
      gi_wp2
      refine ⟨by simp, .inl ⟨_, _, rfl, run_takeDeferred HK.out, ?_⟩⟩
      obtain ⟨⟨q0, q1, q2⟩, _⟩ := cells3 KZ.out
      unfold set3 at q0 q1 q2
      refine ⟨.tuple #[.agg #[Value.slice x4 y4 z4, Value.slice x5 y5 z5, Value.slice x6 y6 z6], .bool true], ?_, HE.out _ _ (retT_yes rfl OZ.out BZ.out)⟩
      simp [results, Try.f48, go_sem, q0, q1, q2]

end Go.Proofs.Ytdkgdinbglkjcaa
