/- ReadDecimal: the walks of the program and of the law. -/
import Derived.Test.YtcaceplnlfmejaaGreatDoorWt10
import Derived.Test.YtcaceplnlfmejaaGreatDoorSpi
import Derived.Lib.AtoiErrMem
namespace Go.Proofs.YtcaceplnlfmejaaGreatDoor
open Go.RowKit
open Lib (itoa decDigits parseIntB)

def Tb (w : World) : Prop := Lib.TabIs Tryz.prog w "internal/strconv.uint64pow10" .u64 Lib.pow10Tab
def Errs (w : World) : Prop := (∃ te pe, w.cell? ⟨2, 0, none⟩ = some (.iface te pe)) ∧ (∃ te pe, w.cell? ⟨3, 0, none⟩ = some (.iface te pe)) ∧ 4 ≤ w.heap.size
theorem Errs.later {w w' : World} (h : Errs w) (hb : Below w.heap.size w w') : Errs w' := by
  obtain ⟨⟨t1, p1, h1⟩, ⟨t2, p2, h2⟩, h3⟩ := h
  have c : ∀ k, k < 4 → w'.cell? ⟨k, 0, none⟩ = w.cell? ⟨k, 0, none⟩ := fun k hk => by
    unfold World.cell?
    rw [hb.block k (by omega)]
  exact ⟨⟨t1, p1, (c _ (by decide)).trans h1⟩, ⟨t2, p2, (c _ (by decide)).trans h2⟩, Nat.le_trans h3 hb.size⟩
theorem Tb.later {w w' : World} (h : Tb w) (hb : Below w.heap.size w w') : Tb w' := tab_later h hb

theorem rd_parse_no (s : ByteArray) (h : ∀ v, parseIntB 64 s.data.toList ≠ .ok v) : rd s = none := by
  cases e : rd s with
  | none => rfl
  | some n => exact absurd (rd_len e).2.2.2.2.2.2 (h n)
theorem rd_parse_in (s : ByteArray) (v : Int) (hv : parseIntB 64 s.data.toList = .ok v) (h : inB v (-1000000000000000) 1000000000000000 = false) : rd s = none := by
  cases e : rd s with
  | none => rfl
  | some n =>
    have q := rd_len e
    have e2 := hv.symm.trans q.2.2.2.2.2.2
    injection e2 with e2
    subst e2
    simp [inB] at h
    omega
theorem rd_parse_ne (s : ByteArray) (v : Int) (hv : parseIntB 64 s.data.toList = .ok v) (h : (⟨(itoa v).toArray⟩ : ByteArray) ≠ s) : rd s = none := by
  cases e : rd s with
  | none => rfl
  | some n =>
    have q := rd_len e
    have e2 := hv.symm.trans q.2.2.2.2.2.2
    injection e2 with e2
    subst e2
    exact absurd q.2.2.1 h
theorem rd_parse_yes (s : ByteArray) (v : Int) (h : inB v (-1000000000000000) 1000000000000000 = true) (h2 : (⟨(itoa v).toArray⟩ : ByteArray) = s) : rd s = some v := by
  simp [inB] at h
  exact rd_of v s (by omega) (by omega) h2
theorem inB_bd {v : Int} (h : inB v (-1000000000000000) 1000000000000000 = true) : -9223372036854775808 ≤ v ∧ v ≤ 9223372036854775807 := by
  simp [inB] at h
  omega





end Go.Proofs.YtcaceplnlfmejaaGreatDoor
