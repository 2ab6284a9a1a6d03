/- Complex numbers: conversions, lists. -/
import Derived.Test.YtcaceplnlfmejaaGreatDoorWt36
import Derived.Laws.Cover3
namespace Go.Proofs.YtcaceplnlfmejaaGreatDoor
open Fl Go.RowKit

@[go_sem high] theorem run_cvc {P : Program} (w : World) (src dst : TypeId) (s d : FloatKind) (a b : Nat) (hs : (P.underlying src).isSome = true) (hd : P.underlying dst = some (.complex d)) :
    (convert src dst (.complex s a b)).run P w = .ok (.complex d (cv s a d w) (cv s b d (w.drewN (cd s a d)))) ((w.drewN (cd s a d)).drewN (cd s b d)) := by
  obtain ⟨u, hs'⟩ := Option.isSome_iff_exists.1 hs
  have e : (Conv.complexToComplex s a b d).run P w = .ok (.complex d (cv s a d w) (cv s b d (w.drewN (cd s a d)))) ((w.drewN (cd s a d)).drewN (cd s b d)) := by
    simp [Conv.complexToComplex, run_f2f]
  rw [← e]
  cases u <;> simp [convert, run_underlying hs', run_underlying hd]
abbrev fC : Nat × Nat → Value := fun p => Value.complex .f32 p.1 p.2
theorem infoC : (Tryz.prog.info? 24).map (fun i => (i.zero, i.size, i.bytes)) = some (some (.complex .f32 0 0), 1, 8) := by kernel_rfl

end Go.Proofs.YtcaceplnlfmejaaGreatDoor
