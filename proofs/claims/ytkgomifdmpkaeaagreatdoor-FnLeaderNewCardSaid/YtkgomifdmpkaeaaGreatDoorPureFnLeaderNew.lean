/- The plain law of FnLeaderNew: what the printed functions compute answers true at every code. -/
import Derived.Test.YtkgomifdmpkaeaaGreatDoorPick
import Derived.Test.YtkgomifdmpkaeaaGreatDoorLdn13
namespace Go.Proofs.YtkgomifdmpkaeaaGreatDoor.Pure
open Go.RowKit Go.Proofs.YtkgomifdmpkaeaaGreatDoor.Ldn Go.Proofs.YtkgomifdmpkaeaaGreatDoorW.PrintWords Go.Proofs.YtkgomifdmpkaeaaGreatDoorW.PrintLast
theorem open_spec (l : List Int) (hl : Bytes l) : ∃ s, spec_l1Open.f l = some (s, 0) ∧ Bytes s ∧ s.length ≤ 2000 := by
  unfold spec_l1Open.f
  by_cases h : (l.length : Int) > 2000
  · rw [if_pos h, if_pos (by omega)]
    exact ⟨_, rfl, fun x hx => hl x (List.mem_of_mem_take hx), by rw [List.length_take]; omega⟩
  · rw [if_neg h]
    exact ⟨_, rfl, hl, by omega⟩
theorem draw_spec (k : Nat) (l : List Int) (hl : Bytes l) : ∃ n, spec_DrawLeaderNew.f (k + 1) l = some n ∧ 0 ≤ n ∧ n < 5 := by
  obtain ⟨s, e, hs, hn⟩ := open_spec l hl
  obtain ⟨r, hr, r0, r1⟩ := pick_spec k s hs hn 0 5 (by omega) (by omega) (by omega) (by omega)
  refine ⟨r, ?_, r0, r1⟩
  unfold spec_DrawLeaderNew.f
  rw [e]
  simp only [Option.bind_some]
  rw [hr]
  rfl
theorem FnLeaderNew : laws_FnLeaderNew.Pure := by
  intro l0 h0 _ hb0
  have by0 : Bytes l0 := fun x hx => by have := hb0 x hx; simp [Lit.wf, IntKind.min, IntKind.max, IntKind.signed, IntKind.bits] at this; omega
  refine ⟨30, ?_⟩
  unfold laws_FnLeaderNew.f
  split
  · rfl
  · obtain ⟨n, e, n0, n1⟩ := draw_spec 29 l0 by0
    rw [e]
    simp only [Option.bind_some]
    have hn : n = 0 ∨ n = 1 ∨ n = 2 ∨ n = 3 ∨ n = 4 := by omega
    rcases hn with rfl | rfl | rfl | rfl | rfl
    · show _ = _; kernel_rfl
    · show _ = _; kernel_rfl
    · show _ = _; kernel_rfl
    · show _ = _; kernel_rfl
    · show _ = _; kernel_rfl
end Go.Proofs.YtkgomifdmpkaeaaGreatDoor.Pure
