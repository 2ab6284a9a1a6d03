/- The law of RunApart, walked. -/
import Derived.Test.YtdkgdinbglkjcaaWk18
namespace Go.Proofs.Ytdkgdinbglkjcaa
open Fl Go.RowKit

theorem own_later {w w' : World} {base : Nat} {e : TypeId} {v : Value} {n : Nat} {xs : List Value} (h : w.ownsRow base e 1 v n xs) (hb : Below w.heap.size w w') : w'.ownsRow base e 1 v n xs :=
  h.kept (gb_below hb none) (by cases v.ownBlock <;> simp)
theorem below_drawn {w w' : World} {n : Nat} (h : w' = w.drewN n) : Below w.heap.size w w' := by rw [h]; exact below_dn (Below.refl _ _) n
theorem ne_of {v v' : Value} {s s' : Nat} (h : ∀ g, v.ownBlock = some g → g < s) (h' : ∀ g, v'.ownBlock = some g → s' ≤ g) (hs : s ≤ s') : v.ownBlock = none ∨ v.ownBlock ≠ v'.ownBlock := by
  cases hv : v.ownBlock with
  | none => exact .inl rfl
  | some g =>
    right
    intro hc
    have a := h g hv
    have c := h' g hc.symm
    omega
theorem ne_symm {v v' : Value} (h : v.ownBlock = none ∨ v.ownBlock ≠ v'.ownBlock) : v'.ownBlock = none ∨ v'.ownBlock ≠ v.ownBlock := by
  rcases h with h | h
  · cases hv : v'.ownBlock with
    | none => exact .inl rfl
    | some g => right; rw [h]; exact fun hc => by cases hc
  · exact .inr fun hc => h hc.symm
theorem runL_len (zs : List Nat) (u d : Nat) : (runL zs u d).length ≤ zs.length := by
  unfold runL; split
  · rw [apL_len]; exact Nat.le_refl _
  · exact Nat.zero_le _

set_option maxRecDepth 20000 in
set_option maxHeartbeats 3200000 in
theorem law_RunApart (w : World) (v : Value) (zs : List Nat) (u d : Nat) (h : FS w v zs) : Calls Try.prog 7 #[v, .float .f32 u, .float .f32 d] w (RetB (.bool true) w) := by
  by_cases hl : zs.length ≤ 1048576
  · have P := Lib.hid h
    have HL := Lib.hid hl
    have HN : Hid ((runL zs u d).length ≤ 1048576) := Lib.hid (Nat.le_trans (runL_len zs u d) hl)
    obtain ⟨a, len, cap, rfl⟩ := h.shape
    obtain ⟨rfl, hm, _⟩ := h.at
    unfold maxLen at hm
    clear h
    have HS := Lib.hid (spec_RunApart (zs := zs) (u := u) (d := d)); have HI := Lib.hid (impl_RunApart (zs := zs) (u := u) (d := d))
    obtain ⟨ok, hok⟩ : ∃ ok, runOk zs u d = ok := ⟨_, rfl⟩
    obtain ⟨bs, hbs⟩ : ∃ bs, runL zs u d = bs := ⟨_, rfl⟩
    rw [hok, hbs] at HS HI
    rw [hbs] at HN
    clear hok hbs
    have h1 : (zs.length : Int) ≤ 1048576 := by omega
    have h2 : (bs.length : Int) ≤ 1048576 := by have := HN.out; omega
    have HB : Hid (Below w.heap.size w w) := Lib.hid (Below.refl _ _)
    go_enter Try.func7, Try.ntmps7
    go_wp2_with fail
    refine (toFloat32S_any _ _ zs (P.out.later HB.out) HL.out).mono ?_
    rintro e w1 ⟨v1, rfl, ho, hb⟩
    replace HB := Lib.hid (HB.out.trans (hb.mono HB.out.size))
    have S1 := Lib.hid ho.FS
    clear ho
    clear hb
    go_wp2_with fail
    refine (HS.out _ _ S1.out).mono ?_
    rintro e w2 ⟨vW, rfl, ho, hb⟩
    replace HB := Lib.hid (HB.out.trans (hb.mono HB.out.size))
    have LW := Lib.hid (fun g hg => (ho.lt g hg).2)
    have hs2 : w.heap.size ≤ w2.heap.size := HB.out.size
    have OW := Lib.hid ho
    clear ho S1
    clear hb
    go_wp2_with fail
    refine (toFloat32S_any _ _ zs (P.out.later HB.out) HL.out).mono ?_
    rintro e w3 ⟨vX, rfl, ho, hb⟩
    replace HB := Lib.hid (HB.out.trans (hb.mono HB.out.size))
    replace OW := Lib.hid (own_later OW.out hb)
    have LX : Hid (∀ g, vX.ownBlock = some g → w2.heap.size ≤ g ∧ g < w3.heap.size) := Lib.hid (fun g hg => World.ownsRow.lt ho g hg)
    have hs3 : w2.heap.size ≤ w3.heap.size := hb.size
    have OX : Hid (w3.ownsRow w2.heap.size 23 1 vX zs.length (zs.map (Value.float .f32))) := Lib.hid ho
    have FX := Lib.hid ho.FS
    have NXW := Lib.hid (ne_of LW.out (fun g hg => (LX.out g hg).1) (Nat.le_refl _))
    have BX : Hid (∀ g, vX.ownBlock = some g → w.heap.size ≤ g) := Lib.hid (fun g hg => Nat.le_trans hs2 (LX.out g hg).1)
    clear ho
    clear hb
    go_wp2_with fail
    refine (HI.out _ _ FX.out).mono ?_
    rintro e w4 ⟨vG, rfl, ho, hb⟩
    replace HB := Lib.hid (HB.out.trans (hb.mono HB.out.size))
    replace OW := Lib.hid (own_later OW.out hb)
    replace OX := Lib.hid (own_later OX.out hb)
    replace FX := Lib.hid (FX.out.later hb)
    have NXG := Lib.hid (ne_symm (ne_of (fun g hg => (LX.out g hg).2) (fun g hg => (ho.lt g hg).1) (Nat.le_refl _)))
    have NWG := Lib.hid (ne_of LW.out (fun g hg => (ho.lt g hg).1) hs3)
    have BG : Hid (∀ g, vG.ownBlock = some g → w.heap.size ≤ g) := Lib.hid (fun g hg => Nat.le_trans (Nat.le_trans hs2 hs3) (ho.lt g hg).1)
    have OG := Lib.hid ho
    clear ho hs2 hs3 LX LW
    clear hb
    go_wp2_with fail
    refine (eqBoolS_true _ _ _ _ _ _ _ bs OG.out OW.out rfl).mono ?_
    rintro e w5 ⟨rfl, n, hw⟩
    have hb := below_drawn hw; clear hw
    replace HB := Lib.hid (HB.out.trans (hb.mono HB.out.size))
    replace OW := Lib.hid (own_later OW.out hb)
    replace OX := Lib.hid (own_later OX.out hb)
    replace OG := Lib.hid (own_later OG.out hb)
    replace FX := Lib.hid (FX.out.later hb)
    clear hb
    go_wp2_with fail
    refine (toFloat32S_any _ _ zs (P.out.later HB.out) HL.out).mono ?_
    rintro e w6 ⟨vY, rfl, ho, hb⟩
    replace HB := Lib.hid (HB.out.trans (hb.mono HB.out.size))
    replace OW := Lib.hid (own_later OW.out hb)
    replace OX := Lib.hid (own_later OX.out hb)
    replace OG := Lib.hid (own_later OG.out hb)
    replace FX := Lib.hid (FX.out.later hb)
    have FY := Lib.hid ho.FS
    clear ho
    clear hb
    go_wp2_with fail
    refine (eqFloat32S_true _ _ _ zs zs FX.out FY.out rfl (fun _ _ => rfl)).mono ?_
    rintro e w7 ⟨rfl, n, hw⟩
    have hb := below_drawn hw; clear hw
    replace HB := Lib.hid (HB.out.trans (hb.mono HB.out.size))
    replace OW := Lib.hid (own_later OW.out hb)
    replace OX := Lib.hid (own_later OX.out hb)
    replace OG := Lib.hid (own_later OG.out hb)
    replace FX := Lib.hid (FX.out.later hb)
    clear FY
    clear hb
    go_wp2_with fail
    refine (markFloat32S_own _ _ _ _ _ 1 OX.out HL.out (by omega) (by omega)).mono ?_
    rintro e w8 ⟨rfl, ho, hg⟩
    replace HB := Lib.hid (below_gb HB.out hg HB.out.size (fun k hk => BX.out k hk))
    replace OW := Lib.hid (OW.out.kept hg NXW.out)
    replace OG := Lib.hid (OG.out.kept hg NXG.out)
    replace OX := Lib.hid ho
    clear ho hg
    clear FX OX BX NXG NXW
    go_wp2_with fail
    refine (eqBoolS_true _ _ _ _ _ _ _ bs OG.out OW.out rfl).mono ?_
    rintro e w9 ⟨rfl, n, hw⟩
    have hb := below_drawn hw; clear hw
    replace HB := Lib.hid (HB.out.trans (hb.mono HB.out.size))
    replace OW := Lib.hid (own_later OW.out hb)
    replace OG := Lib.hid (own_later OG.out hb)
    clear hb
    go_wp2_with fail
    refine (markBoolS_own _ _ _ _ _ 1 OG.out HN.out (by omega) (by omega)).mono ?_
    rintro e w10 ⟨rfl, ho, hg⟩
    replace HB := Lib.hid (below_gb HB.out hg HB.out.size (fun k hk => BG.out k hk))
    replace OW := Lib.hid (OW.out.kept hg NWG.out)
    replace OG := Lib.hid ho
    clear ho hg
    clear BG NWG
    go_wp2_with fail
    refine (heldBoolS_own _ _ _ _ _ 1 OG.out (fun i hi => by have := mkL_all (Mb 1) (bs.map Value.bool) (i := i) (by simpa using hi); simpa using this) HN.out (by omega) (by omega)).mono ?_
    rintro e w11 ⟨rfl, n, hw⟩
    have hb := below_drawn hw; clear hw
    replace HB := Lib.hid (HB.out.trans (hb.mono HB.out.size))
    replace OW := Lib.hid (own_later OW.out hb)
    replace OG := Lib.hid (own_later OG.out hb)
    clear hb
    go_wp2_with fail
    refine (toFloat32S_any _ _ zs (P.out.later HB.out) HL.out).mono ?_
    rintro e w12 ⟨vZ, rfl, ho, hb⟩
    replace HB := Lib.hid (HB.out.trans (hb.mono HB.out.size))
    replace OW := Lib.hid (own_later OW.out hb)
    replace OG := Lib.hid (own_later OG.out hb)
    have FZ := Lib.hid ho.FS
    clear ho
    clear hb
    go_wp2_with fail
    refine (HI.out _ _ FZ.out).mono ?_
    rintro e w13 ⟨vH, rfl, ho, hb⟩
    replace HB := Lib.hid (HB.out.trans (hb.mono HB.out.size))
    replace OW := Lib.hid (own_later OW.out hb)
    replace OG := Lib.hid (own_later OG.out hb)
    have OH := Lib.hid ho
    clear ho FZ
    clear hb
    go_wp2_with fail
    refine (eqBoolS_true _ _ _ _ _ _ _ bs OH.out OW.out rfl).mono ?_
    rintro e w14 ⟨rfl, n, hw⟩
    have hb := below_drawn hw; clear hw
    replace HB := Lib.hid (HB.out.trans (hb.mono HB.out.size))
    replace OW := Lib.hid (own_later OW.out hb)
    replace OG := Lib.hid (own_later OG.out hb)
    replace OH := Lib.hid (own_later OH.out hb)
    clear hb
    go_wp2_with fail
    refine (heldBoolS_own _ _ _ _ _ 1 OG.out (fun i hi => by have := mkL_all (Mb 1) (bs.map Value.bool) (i := i) (by simpa using hi); simpa using this) HN.out (by omega) (by omega)).mono ?_
    rintro e w15 ⟨rfl, n, hw⟩
    have hb := below_drawn hw; clear hw
    replace HB := Lib.hid (HB.out.trans (hb.mono HB.out.size))
    replace OW := Lib.hid (own_later OW.out hb)
    replace OG := Lib.hid (own_later OG.out hb)
    replace OH := Lib.hid (own_later OH.out hb)
    clear hb
    go_wp2
    go_ret
    exact .mk' rfl HB.out
  · obtain ⟨a, len, cap, rfl⟩ := h.shape
    obtain ⟨rfl, hm, _⟩ := h.at
    unfold maxLen at hm
    clear h
    go_enter Try.func7, Try.ntmps7
    go_wp2
    go_ret
    exact .mk' rfl (Below.refl _ _)

end Go.Proofs.Ytdkgdinbglkjcaa
