/- Contracts of functions of the program: each call returns what the plain function '.f' of that name says, wherever it says something. -/
import Derived.Test.YtkgomifdmpkaeaaGreatDoorLdn0
import Derived.Test.YtkgomifdmpkaeaaGreatDoorLdn1
import Derived.Test.YtkgomifdmpkaeaaGreatDoorLdn5
import Derived.Test.YtkgomifdmpkaeaaGreatDoorLdn11
import Derived.Test.YtkgomifdmpkaeaaGreatDoorLdn12
namespace Go.Proofs.YtkgomifdmpkaeaaGreatDoor.Ldn
open Go.RowKit Go.Proofs.YtkgomifdmpkaeaaGreatDoorW.PrintWords Go.Proofs.YtkgomifdmpkaeaaGreatDoorW.PrintLast Go.Proofs.YtkgomifdmpkaeaaGreatDoorW.PrintMore
attribute [local go_sem] max2_int min2_int max_two min_two max_three min_three max_four min_four   -- for this text's walks alone
set_option linter.unusedVariables false
set_option linter.unusedSimpArgs false

/-! ### laws_FnLeaderNew: function 3 -/
def laws_FnLeaderNew.j0 : Nat → Int → Bool → Int → List (S67) → ByteArray → List (S57) → Int → Option (Bool)
 | 0, _, _, _, _, _, _, _ => none
 | k + 1, x3, x25, x422000, x422001, x422002, x422003, x422004 => if x25 = true then ((spec_LeaderNew.f k x3).bind fun bt432 => ((laws_qxLeader.f k x422000 x422001 x422002 x422003 x422004 bt432.1 bt432.2.1 bt432.2.2.1 bt432.2.2.2.1 bt432.2.2.2.2).bind fun t441 => (some t441))) else ((impl_PackFor.f k x422000 x422001 x422002 x422003 x422004 0 (⟨#[]⟩ : ByteArray) 0 ([] : List (S67))).bind fun bt442 => ((impl_LeaderOk.f k x422000 x422001 x422002 x422003 x422004).bind fun t448 => (if t448 = true then (if x422004 = 1 then (if bt442.1 = true then (if bt442.2.2.2.1.toList = ([] : List UInt8) then ((impl_FollowerLag.f k x422000 x422001 x422002 x422003 x422004 0 (⟨#[]⟩ : ByteArray) 0 ([] : List (S67))).bind fun t449 => (some (t449 == 0))) else (some false)) else (some false)) else (some false)) else (some false))))
def laws_FnLeaderNew.f (k : Nat) (l0 : List Int) : Option (Bool) := if (l0.length : Int) > 1048576 then (some true) else ((spec_DrawLeaderNew.f k l0).bind fun t411 => ((impl_LeaderNew.f k t411).bind fun bt412 => ((spec_LeaderNew.f k t411).bind fun bt422 => ((laws_qxLeader.f k bt412.1 bt412.2.1 bt412.2.2.1 bt412.2.2.2.1 bt412.2.2.2.2 bt422.1 bt422.2.1 bt422.2.2.1 bt422.2.2.2.1 bt422.2.2.2.2).bind fun t431 => (if t431 = true then (if t411 < 1 then (laws_FnLeaderNew.j0 k t411 true bt412.1 bt412.2.1 bt412.2.2.1 bt412.2.2.2.1 bt412.2.2.2.2) else (laws_FnLeaderNew.j0 k t411 (decide (t411 > 3)) bt412.1 bt412.2.1 bt412.2.2.1 bt412.2.2.2.1 bt412.2.2.2.2)) else (laws_FnLeaderNew.j0 k t411 true bt412.1 bt412.2.1 bt412.2.2.1 bt412.2.2.2.1 bt412.2.2.2.2))))))
theorem laws_FnLeaderNew.mono_l : ∀ k, (∀ y0 y1 y2 y3 y4 y5 y6, LeO (laws_FnLeaderNew.j0 k y0 y1 y2 y3 y4 y5 y6) (laws_FnLeaderNew.j0 (k + 1) y0 y1 y2 y3 y4 y5 y6))
 | 0 => fun _ _ _ _ _ _ _ r h => by simp [laws_FnLeaderNew.j0] at h
 | k + 1 => by
  have ih0 := laws_FnLeaderNew.mono_l k
  ·intro y0 y1 y2 y3 y4 y5 y6
   unfold laws_FnLeaderNew.j0
   repeat' first
   | (with_reducible exact ih0 _ _ _ _ _ _ _)
   | (with_reducible exact impl_FollowerLag.mono _ _ _ _ _ _ _ _ _ _)
   | (with_reducible exact impl_LeaderNew.mono _ _)
   | (with_reducible exact impl_LeaderOk.mono _ _ _ _ _ _)
   | (with_reducible exact impl_PackFor.mono _ _ _ _ _ _ _ _ _ _)
   | (with_reducible exact laws_qxLeader.mono _ _ _ _ _ _ _ _ _ _ _)
   | (with_reducible exact spec_DrawLeaderNew.mono _ _)
   | (with_reducible exact spec_LeaderNew.mono _ _)
   | (with_reducible exact LeO.refl _)
   | (with_reducible exact LeO.none _)
   | (with_reducible refine LeO.ite ?_ ?_)
   | (with_reducible refine LeO.bind ?_ (fun _ => ?_))
   | exact ih0 _ _ _ _ _ _ _
   | exact impl_FollowerLag.mono _ _ _ _ _ _ _ _ _ _
   | exact impl_LeaderNew.mono _ _
   | exact impl_LeaderOk.mono _ _ _ _ _ _
   | exact impl_PackFor.mono _ _ _ _ _ _ _ _ _ _
   | exact laws_qxLeader.mono _ _ _ _ _ _ _ _ _ _ _
   | exact spec_DrawLeaderNew.mono _ _
   | exact spec_LeaderNew.mono _ _
   | exact LeO.none _
   | refine LeO.ite ?_ ?_
   | refine LeO.bind ?_ (fun _ => ?_)
theorem laws_FnLeaderNew.mono : ∀ a0 k, LeO (laws_FnLeaderNew.f k a0) (laws_FnLeaderNew.f (k + 1) a0) := by
 intro a0 k
 have ih0 := laws_FnLeaderNew.mono_l k
 unfold laws_FnLeaderNew.f
 repeat' first
   | (with_reducible exact ih0 _ _ _ _ _ _ _)
   | (with_reducible exact impl_FollowerLag.mono _ _ _ _ _ _ _ _ _ _)
   | (with_reducible exact impl_LeaderNew.mono _ _)
   | (with_reducible exact impl_LeaderOk.mono _ _ _ _ _ _)
   | (with_reducible exact impl_PackFor.mono _ _ _ _ _ _ _ _ _ _)
   | (with_reducible exact laws_qxLeader.mono _ _ _ _ _ _ _ _ _ _ _)
   | (with_reducible exact spec_DrawLeaderNew.mono _ _)
   | (with_reducible exact spec_LeaderNew.mono _ _)
   | (with_reducible exact LeO.refl _)
   | (with_reducible exact LeO.none _)
   | (with_reducible refine LeO.ite ?_ ?_)
   | (with_reducible refine LeO.bind ?_ (fun _ => ?_))
   | exact ih0 _ _ _ _ _ _ _
   | exact impl_FollowerLag.mono _ _ _ _ _ _ _ _ _ _
   | exact impl_LeaderNew.mono _ _
   | exact impl_LeaderOk.mono _ _ _ _ _ _
   | exact impl_PackFor.mono _ _ _ _ _ _ _ _ _ _
   | exact laws_qxLeader.mono _ _ _ _ _ _ _ _ _ _ _
   | exact spec_DrawLeaderNew.mono _ _
   | exact spec_LeaderNew.mono _ _
   | exact LeO.none _
   | refine LeO.ite ?_ ?_
   | refine LeO.bind ?_ (fun _ => ?_)
def laws_FnLeaderNew.T5 : Bool × List (List Nat × List Nat) := (true, [([], []), ([], []), ([1], [1]), ([0, 2, 2], [0, 2]), ([3], [3]), ([4, 3], [4]), ([5], [5]), ([6, 5], [5, 6]), ([5, 7], [5, 7]), ([8, 5], [8]), ([9], [9]), ([10, 9], [9, 10]), ([9, 11], [9, 11])])
def laws_FnLeaderNew.B5 : List Nat := [0, 0, 2, 7, 15, 31, 63, 127, 255, 511, 1023, 2047, 4095]
theorem laws_FnLeaderNew.tab5 : rtab .any (opsOf Tryz.f3 5) = laws_FnLeaderNew.T5 := by kernel_rfl
theorem laws_FnLeaderNew.bits5 : waitsOk laws_FnLeaderNew.T5.2 laws_FnLeaderNew.B5 = true := by kernel_rfl
set_option maxHeartbeats 8000000 in
set_option maxRecDepth 100000 in
theorem laws_FnLeaderNew.calls (k : Nat) (A0 : Option Addr) (c0 : Nat) (l0 : List Int) (r : Bool) (w : World) (hr0 : Kd.C (Kd.int .u8) w A0 l0.length l0) (hc0 : l0.length ≤ c0) (h : laws_FnLeaderNew.f k l0 = some r) :
  Calls Tryz.prog 3 #[.slice A0 l0.length c0] w fun e w' => e = .returned (.bool r) ∧ Below w.heap.size w w' := by
 have hu31 := Tryz.underlying31
 have hu38 := Tryz.underlying38
 have hu35 := Tryz.underlying35
 have HR0 := Aside0.mk hr0
 have HC0 := Aside0.mk hc0
 clear hr0 hc0
 have HB := Aside0.mk (Below.refl w.heap.size w)
 have H : (if (l0.length : Int) > 1048576 then (some true) else ((spec_DrawLeaderNew.f k l0).bind fun t411 => ((impl_LeaderNew.f k t411).bind fun bt412 => ((spec_LeaderNew.f k t411).bind fun bt422 => ((laws_qxLeader.f k bt412.1 bt412.2.1 bt412.2.2.1 bt412.2.2.2.1 bt412.2.2.2.2 bt422.1 bt422.2.1 bt422.2.2.1 bt422.2.2.2.1 bt422.2.2.2.2).bind fun t431 => (if t431 = true then (if t411 < 1 then (laws_FnLeaderNew.j0 k t411 true bt412.1 bt412.2.1 bt412.2.2.1 bt412.2.2.2.1 bt412.2.2.2.2) else (laws_FnLeaderNew.j0 k t411 (decide (t411 > 3)) bt412.1 bt412.2.1 bt412.2.2.1 bt412.2.2.2.1 bt412.2.2.2.2)) else (laws_FnLeaderNew.j0 k t411 true bt412.1 bt412.2.1 bt412.2.2.1 bt412.2.2.2.1 bt412.2.2.2.2))))))) = some r := h
 clear h
 by_cases c2 : (l0.length : Int) > 1048576
 ·rw [if_pos c2] at H
  have c2b0 : decide (1048576 < (l0.length : Int)) = true := decide_eq_true c2
  have c2b1 : decide (1048576 < l0.length) = true := decide_eq_true (by omega)
  clear c2
  obtain rfl := Option.some.inj H
  go_enter Tryz.func3, Tryz.ntmps3
  go_wp2
  go_ret
  exact ⟨re_, bl_⟩
 ·rw [if_neg c2] at H
  have c2b0 : decide (1048576 < (l0.length : Int)) = false := decide_eq_false c2
  have c2b1 : decide (1048576 < l0.length) = false := decide_eq_false (by omega)
  clear c2
  replace H := Option.bind_eq_some_iff.mp H
  obtain ⟨t411, A30, H⟩ := H
  replace H : ((impl_LeaderNew.f k t411).bind fun bt412 => ((spec_LeaderNew.f k t411).bind fun bt422 => ((laws_qxLeader.f k bt412.1 bt412.2.1 bt412.2.2.1 bt412.2.2.2.1 bt412.2.2.2.2 bt422.1 bt422.2.1 bt422.2.2.1 bt422.2.2.2.1 bt422.2.2.2.2).bind fun t431 => (if t431 = true then (if t411 < 1 then (laws_FnLeaderNew.j0 k t411 true bt412.1 bt412.2.1 bt412.2.2.1 bt412.2.2.2.1 bt412.2.2.2.2) else (laws_FnLeaderNew.j0 k t411 (decide (t411 > 3)) bt412.1 bt412.2.1 bt412.2.2.1 bt412.2.2.2.1 bt412.2.2.2.2)) else (laws_FnLeaderNew.j0 k t411 true bt412.1 bt412.2.1 bt412.2.2.1 bt412.2.2.2.1 bt412.2.2.2.2))))) = some r := H
  have A3 := Aside0.mk A30
  clear A30
  replace H := Option.bind_eq_some_iff.mp H
  obtain ⟨⟨t412, t413, t416, t417, t420⟩, A40, H⟩ := H
  replace H : ((spec_LeaderNew.f k t411).bind fun bt422 => ((laws_qxLeader.f k t412 t413 t416 t417 t420 bt422.1 bt422.2.1 bt422.2.2.1 bt422.2.2.2.1 bt422.2.2.2.2).bind fun t431 => (if t431 = true then (if t411 < 1 then (laws_FnLeaderNew.j0 k t411 true t412 t413 t416 t417 t420) else (laws_FnLeaderNew.j0 k t411 (decide (t411 > 3)) t412 t413 t416 t417 t420)) else (laws_FnLeaderNew.j0 k t411 true t412 t413 t416 t417 t420)))) = some r := H
  have A4 := Aside0.mk A40
  clear A40
  have HC5 := Aside0.mk H
  clear H
  go_enter Tryz.func3, Tryz.ntmps3
  go_upto_region 5 with (first | ((with_reducible refine gate_callee (f := 4) rfl ?_); refine goesL_ (some 10) rfl rfl Tryz.func4 (by kernel_rfl) rfl #[.slice A0 l0.length c0] rfl ga_ ?_; (with_reducible refine (spec_DrawLeaderNew.calls k _ _ l0 t411 _ ?side1 ?side2 A3.out).mono ?_); (case side1 => repeat (first | exact HR0.out | (with_reducible refine Kd.C_alloc ?_ _) | (with_reducible refine Kd.C_drewN ?_ _) | (with_reducible refine Kd.C_drew ?_))); (case side2 => exact HC0.out); rintro e w6 ⟨rfl, hb⟩; refine ⟨_, rfl, ?_⟩; have n0_ := Aside0.mk (below_step bl_ hb); clear HB; have HB := n0_; clear n0_; (try clear hb); (try clear hb2); (try clear hk); (try clear hi)) | ((with_reducible refine gate_callee (f := 5) rfl ?_); refine goesL_ (some 12) rfl rfl Tryz.func5 (by kernel_rfl) rfl #[.int .i64 t411] rfl ga_ ?_; (with_reducible refine (impl_LeaderNew.calls k t411 t412 t413 t416 t417 t420 _ A4.out).mono ?_); rintro e w7 ⟨v414, v418, rfl, ho0, ho1, hb⟩; refine ⟨_, rfl, ?_⟩; have n0_ := Aside0.mk (Kd.S_lower ho0 (below_size bl_)); have n1_ := Aside0.mk (Kd.R_lower ho1 (below_size bl_)); have n2_ := Aside0.mk (below_step bl_ hb); clear HB; have HO415 := n0_; have HO419 := n1_; have HB := n2_; clear n0_ n1_ n2_; (try clear hb); (try clear hb2); (try clear hk); (try clear hi); (try clear ho0); (try clear ho1)) | ((with_reducible refine gate_dst (N := 4) rfl ?_); refine box_event ?hg (N := 4) ?hd (cs := #[.int .i64 0, .slice none 0 0, .string (⟨#[]⟩ : ByteArray), .slice none 0 0, .int .i64 0]) (t := 31) ?hr ?_; (case hd => rfl); (case hg => rfl); (case hr => first | (go_simp; done) | (go_simp; rfl)); intro gb421 hg w8 hbox hb; have n0_ := Aside0.mk (Kd.S_below (by (with_reducible repeat (first | apply Kd.S_alloc | apply Kd.S_drewN | apply Kd.S_drew)); exact HO415.out) hb); have n1_ := Aside0.mk (Kd.R_below (by (with_reducible repeat (first | apply Kd.R_alloc | apply Kd.R_drewN | apply Kd.R_drew)); exact HO419.out) hb); have n2_ := Aside0.mk (below_step bl_ hb); have n3_ := Aside0.mk (hbox); have n4_ := Aside0.mk ((by rw [hg]; exact (below_size bl_) : w.heap.size ≤ gb421)); have n5_ := Aside0.mk ((by rw [hg]; exact (below_size bl_) : w.heap.size ≤ gb421)); clear HO415; clear HO419; clear HB; have HO415 := n0_; have HO419 := n1_; have HB := n2_; have BK421 := n3_; have GW421 := n4_; have GE421 := n5_; clear n0_ n1_ n2_ n3_ n4_ n5_; clear hb hbox hg; have hcz9_0 : w8.cell? ⟨gb421, 0, none⟩ = some (.int .i64 0) := (blk_cell BK421.out 0).trans rfl; have hcz9_1 : w8.cell? ⟨gb421, 1, none⟩ = some (.slice none 0 0) := (blk_cell BK421.out 1).trans rfl; have hcz9_2 : w8.cell? ⟨gb421, 2, none⟩ = some (.string (⟨#[]⟩ : ByteArray)) := (blk_cell BK421.out 2).trans rfl; have hcz9_3 : w8.cell? ⟨gb421, 3, none⟩ = some (.slice none 0 0) := (blk_cell BK421.out 3).trans rfl; have hcz9_4 : w8.cell? ⟨gb421, 4, none⟩ = some (.int .i64 0) := (blk_cell BK421.out 4).trans rfl; have hfz9_0 := blk_frozen BK421.out 0; have hfz9_1 := blk_frozen BK421.out 1; have hfz9_2 := blk_frozen BK421.out 2; have hfz9_3 := blk_frozen BK421.out 3; have hfz9_4 := blk_frozen BK421.out 4; obtain ⟨Ao10, co10, eo10⟩ := Kd.S_slice HO415.out; subst eo10; obtain ⟨Ao11, co11, eo11⟩ := Kd.R_slice HO419.out; subst eo11))
  (try simp only [Act.put, List.setIfInBounds_toArray, List.set_cons_zero, List.set_cons_succ])
  go_cut [25] (fun v25 wc => ∃ (kq : Nat) (x25_4 : Bool), v25 = .bool x25_4 ∧ Aside0 (laws_FnLeaderNew.j0 kq t411 x25_4 t412 t413 t416 t417 t420 = some r) ∧ Aside0 (kq ≤ k) ∧ Aside0 (Kd.S k67 67 wc w.heap.size (fun _ => True) (.slice Ao10 t413.length co10) t413) ∧ Aside0 (Kd.R k57 57 wc w.heap.size (fun _ => True) (.slice Ao11 t417.length co11) t417) ∧ Aside0 (wc.heap[gb421]? = some (.cells #[.int .i64 t412, (.slice Ao10 t413.length co10), .string t416, (.slice Ao11 t417.length co11), .int .i64 t420] 31 (0, 0))) ∧ Aside0 (Below w.heap.size w wc))
  case first =>
   have H := HC5.out
   clear HC5
   replace H := Option.bind_eq_some_iff.mp H
   obtain ⟨⟨t422, t423, t426, t427, t430⟩, A120, H⟩ := H
   replace H : ((laws_qxLeader.f k t412 t413 t416 t417 t420 t422 t423 t426 t427 t430).bind fun t431 => (if t431 = true then (if t411 < 1 then (laws_FnLeaderNew.j0 k t411 true t412 t413 t416 t417 t420) else (laws_FnLeaderNew.j0 k t411 (decide (t411 > 3)) t412 t413 t416 t417 t420)) else (laws_FnLeaderNew.j0 k t411 true t412 t413 t416 t417 t420))) = some r := H
   have A12 := Aside0.mk A120
   clear A120
   replace H := Option.bind_eq_some_iff.mp H
   obtain ⟨t431, A130, H⟩ := H
   replace H : (if t431 = true then (if t411 < 1 then (laws_FnLeaderNew.j0 k t411 true t412 t413 t416 t417 t420) else (laws_FnLeaderNew.j0 k t411 (decide (t411 > 3)) t412 t413 t416 t417 t420)) else (laws_FnLeaderNew.j0 k t411 true t412 t413 t416 t417 t420)) = some r := H
   have A13 := Aside0.mk A130
   clear A130
   by_cases c14 : t431 = true
   ·subst c14
    have H1 : (if t411 < 1 then (laws_FnLeaderNew.j0 k t411 true t412 t413 t416 t417 t420) else (laws_FnLeaderNew.j0 k t411 (decide (t411 > 3)) t412 t413 t416 t417 t420)) = some r := by rw [if_pos rfl] at H; exact H
    clear H
    have H := H1
    clear H1
    by_cases c15 : t411 < 1
    ·rw [if_pos c15] at H
     have c15b0 : decide (t411 < 1) = true := decide_eq_true c15
     clear c15
     (first | rw [c15b0] | (simp only [i64_w, i32_w]; rw [c15b0]) | skip)
     have H' := Aside0.mk H
     clear H
     try go_wp2
     have n0_ : Aside0 (Kd.S k67 67 (((((w8.setCell ⟨gb421, 0, none⟩ (.int .i64 t412)).setCell ⟨gb421, 1, none⟩ (.slice Ao10 t413.length co10)).setCell ⟨gb421, 2, none⟩ (.string t416)).setCell ⟨gb421, 3, none⟩ (.slice Ao11 t417.length co11)).setCell ⟨gb421, 4, none⟩ (.int .i64 t420)) w.heap.size (fun _ => True) (.slice Ao10 t413.length co10) t413) := ⟨by (with_reducible repeat (first | apply Kd.S_alloc | apply Kd.S_drewN | apply Kd.S_drew)); exact Kd.S_mono (Kd.S_far (p := ⟨gb421, 4, none⟩) (Kd.S_far (p := ⟨gb421, 3, none⟩) (Kd.S_far (p := ⟨gb421, 2, none⟩) (Kd.S_far (p := ⟨gb421, 1, none⟩) (Kd.S_far (p := ⟨gb421, 0, none⟩) (Kd.S_types HO415.out BK421.out (by decide)) (fun _ hk => hk.2) (.int .i64 t412)) (fun _ hk => hk.2) (.slice Ao10 t413.length co10)) (fun _ hk => hk.2) (.string t416)) (fun _ hk => hk.2) (.slice Ao11 t417.length co11)) (fun _ hk => hk.2) (.int .i64 t420)) (fun _ hk => trivial)⟩
     have n1_ : Aside0 (Kd.R k57 57 (((((w8.setCell ⟨gb421, 0, none⟩ (.int .i64 t412)).setCell ⟨gb421, 1, none⟩ (.slice Ao10 t413.length co10)).setCell ⟨gb421, 2, none⟩ (.string t416)).setCell ⟨gb421, 3, none⟩ (.slice Ao11 t417.length co11)).setCell ⟨gb421, 4, none⟩ (.int .i64 t420)) w.heap.size (fun _ => True) (.slice Ao11 t417.length co11) t417) := ⟨by (with_reducible repeat (first | apply Kd.R_alloc | apply Kd.R_drewN | apply Kd.R_drew)); exact Kd.R_mono (Kd.R_far (p := ⟨gb421, 4, none⟩) (Kd.R_far (p := ⟨gb421, 3, none⟩) (Kd.R_far (p := ⟨gb421, 2, none⟩) (Kd.R_far (p := ⟨gb421, 1, none⟩) (Kd.R_far (p := ⟨gb421, 0, none⟩) (Kd.R_types HO419.out BK421.out (by decide)) (fun _ hk => hk.2) (.int .i64 t412)) (fun _ hk => hk.2) (.slice Ao10 t413.length co10)) (fun _ hk => hk.2) (.string t416)) (fun _ hk => hk.2) (.slice Ao11 t417.length co11)) (fun _ hk => hk.2) (.int .i64 t420)) (fun _ hk => trivial)⟩
     have n2_ : Aside0 ((((((w8.setCell ⟨gb421, 0, none⟩ (.int .i64 t412)).setCell ⟨gb421, 1, none⟩ (.slice Ao10 t413.length co10)).setCell ⟨gb421, 2, none⟩ (.string t416)).setCell ⟨gb421, 3, none⟩ (.slice Ao11 t417.length co11)).setCell ⟨gb421, 4, none⟩ (.int .i64 t420)).heap[gb421]? = some (.cells #[.int .i64 t412, .slice Ao10 t413.length co10, .string t416, .slice Ao11 t417.length co11, .int .i64 t420] 31 (0, 0))) := ⟨by (with_reducible repeat (first | refine blk_drewN ?_ _ | refine blk_drew ?_ | refine blk_alloc ?_ _)); refine blk_put (cs := #[.int .i64 t412, .slice Ao10 t413.length co10, .string t416, .slice Ao11 t417.length co11, .int .i64 0]) ?_ 4 _ rfl; (with_reducible repeat (first | refine blk_drewN ?_ _ | refine blk_drew ?_ | refine blk_alloc ?_ _)); refine blk_put (cs := #[.int .i64 t412, .slice Ao10 t413.length co10, .string t416, .slice none 0 0, .int .i64 0]) ?_ 3 _ rfl; (with_reducible repeat (first | refine blk_drewN ?_ _ | refine blk_drew ?_ | refine blk_alloc ?_ _)); refine blk_put (cs := #[.int .i64 t412, .slice Ao10 t413.length co10, .string (⟨#[]⟩ : ByteArray), .slice none 0 0, .int .i64 0]) ?_ 2 _ rfl; (with_reducible repeat (first | refine blk_drewN ?_ _ | refine blk_drew ?_ | refine blk_alloc ?_ _)); refine blk_put (cs := #[.int .i64 t412, .slice none 0 0, .string (⟨#[]⟩ : ByteArray), .slice none 0 0, .int .i64 0]) ?_ 1 _ rfl; (with_reducible repeat (first | refine blk_drewN ?_ _ | refine blk_drew ?_ | refine blk_alloc ?_ _)); refine blk_put (cs := #[.int .i64 0, .slice none 0 0, .string (⟨#[]⟩ : ByteArray), .slice none 0 0, .int .i64 0]) ?_ 0 _ rfl; (with_reducible repeat (first | refine blk_drewN ?_ _ | refine blk_drew ?_ | refine blk_alloc ?_ _)); exact BK421.out⟩
     have n3_ : Aside0 (Below w.heap.size w (((((w8.setCell ⟨gb421, 0, none⟩ (.int .i64 t412)).setCell ⟨gb421, 1, none⟩ (.slice Ao10 t413.length co10)).setCell ⟨gb421, 2, none⟩ (.string t416)).setCell ⟨gb421, 3, none⟩ (.slice Ao11 t417.length co11)).setCell ⟨gb421, 4, none⟩ (.int .i64 t420))) := ⟨bl_⟩
     (try clear HO415)
     (try clear HO419)
     (try clear BK421)
     (try clear HB)
     generalize (((((w8.setCell ⟨gb421, 0, none⟩ (.int .i64 t412)).setCell ⟨gb421, 1, none⟩ (.slice Ao10 t413.length co10)).setCell ⟨gb421, 2, none⟩ (.string t416)).setCell ⟨gb421, 3, none⟩ (.slice Ao11 t417.length co11)).setCell ⟨gb421, 4, none⟩ (.int .i64 t420)) = w16 at n0_ n1_ n2_ n3_ ⊢
     have HO415 := n0_
     have HO419 := n1_
     have BK421 := n2_
     have HB := n3_
     clear n0_ n1_ n2_ n3_
     have n0_ := Aside0.mk (Kd.S_drew HO415.out)
     have n1_ := Aside0.mk (Kd.R_drew HO419.out)
     have n2_ := Aside0.mk (blk_drew BK421.out)
     have n3_ := Aside0.mk (below_drew1 HB.out)
     clear HO415
     clear HO419
     clear BK421
     clear HB
     have HO415 := n0_
     have HO419 := n1_
     have BK421 := n2_
     have HB := n3_
     clear n0_ n1_ n2_ n3_
     refine start_ (n := 13) (S := fun w' => w'.cell? ⟨gb421, 0, none⟩ = some (.int .i64 t412) ∧ w'.cell? ⟨gb421, 1, none⟩ = some (.slice Ao10 t413.length co10) ∧ w'.cell? ⟨gb421, 2, none⟩ = some (.string t416) ∧ w'.cell? ⟨gb421, 3, none⟩ = some (.slice Ao11 t417.length co11) ∧ w'.cell? ⟨gb421, 4, none⟩ = some (.int .i64 t420)) (ds := []) #[false, false, false, false, false, false, false, false, false, false, false, false, false] (by kernel_rfl) rfl rfl ⟨(blk_cell BK421.out 0).trans rfl, (blk_cell BK421.out 1).trans rfl, (blk_cell BK421.out 2).trans rfl, (blk_cell BK421.out 3).trans rfl, (blk_cell BK421.out 4).trans rfl⟩ (fun hHeld => ?_); refine with_tabW laws_FnLeaderNew.tab5 laws_FnLeaderNew.bits5 (fun HT_ HW_ => ?_)
     generalize w16.drew = w17 at HO415 HO419 BK421 HB hHeld ⊢
     refine pure_ (i := 1) (N := some 14) (v := ?_) (a' := ?_) #[false, true, false, false, false, false, false, false, false, false, false, false, false] rfl rfl (any_of HT_.out (by kernel_rfl)) (fun _ _ _ h => h) (Or.inl ⟨by rfl, ?_⟩) ?_ ?_
     rotate_left
     ·intro w'
      go_simp
      with_reducible rfl
     rotate_left
     ·simp only [Act.put, List.setIfInBounds_toArray, List.set_cons_zero, List.set_cons_succ, i64_w, i32_w]
      rfl
     refine take_ (i := 0) (N := some 13) (v := ?_) (a' := ?_) #[true, true, false, false, false, false, false, false, false, false, false, false, false] rfl rfl (take_ofW HT_.out HW_.out (by kernel_rfl)) (fun _ _ _ h => h) (Or.inl ⟨by rfl, ?_⟩) hHeld ?_ ?_
     rotate_left
     ·rintro w' ⟨s0, s1, s2, s3, s4⟩
      go_simp
      with_reducible rfl
     rotate_left
     ·simp only [Act.put, List.setIfInBounds_toArray, List.set_cons_zero, List.set_cons_succ, i64_w, i32_w]
      rfl
     refine one_ (i := 2) (N := some 15) #[true, true, true, false, false, false, false, false, false, false, false, false, false] rfl rfl (one_of HT_.out (by kernel_rfl)) (by decide) (fun K hK => ?_)
     refine goes_ Tryz.func7 (by kernel_rfl) rfl #[.int .i64 t411] (by rfl) rfl rfl ga_ ?_
     with_reducible refine (spec_LeaderNew.calls k t411 t422 t423 t426 t427 t430 _ A12.out).mono ?_
     rintro e w18 ⟨v424, v428, rfl, ho0, ho1, hb⟩
     refine ⟨_, rfl, ?_⟩
     have n0_ := Aside0.mk (Kd.S_elder' (by (with_reducible repeat (first | apply Kd.S_alloc | apply Kd.S_drewN | apply Kd.S_drew)); exact HO415.out) (Kd.S_base ho0) hb)
     have n1_ := Aside0.mk (Kd.R_elder' (by (with_reducible repeat (first | apply Kd.R_alloc | apply Kd.R_drewN | apply Kd.R_drew)); exact HO419.out) (Kd.R_base ho1) hb)
     have n2_ := Aside0.mk (Kd.S_lower (Kd.S_new' ho0 (Kd.S_lt (by (with_reducible repeat (first | apply Kd.S_alloc | apply Kd.S_drewN | apply Kd.S_drew)); exact HO415.out))) (below_size bl_))
     have n3_ := Aside0.mk (Kd.R_lower (Kd.R_new' ho1 (Kd.R_lt (by (with_reducible repeat (first | apply Kd.R_alloc | apply Kd.R_drewN | apply Kd.R_drew)); exact HO419.out))) (below_size bl_))
     have n4_ := Aside0.mk (blk_below (g := gb421) (o := .cells #[.int .i64 t412, .slice Ao10 t413.length co10, .string t416, .slice Ao11 t417.length co11, .int .i64 t420] 31 (0, 0)) (bk_ BK421.out) hb)
     have n5_ := Aside0.mk (below_step bl_ hb)
     clear HO415
     clear HO419
     clear BK421
     clear HB
     have HO415 := n0_
     have HO419 := n1_
     have HO425 := n2_
     have HO429 := n3_
     have BK421 := n4_
     have HB := n5_
     clear n0_ n1_ n2_ n3_ n4_ n5_
     (try clear hb)
     (try clear hb2)
     (try clear hk)
     (try clear hi)
     (try clear ho0)
     (try clear ho1)
     obtain ⟨Ao19, co19, eo19⟩ := Kd.S_slice HO425.out
     (first | subst eo19 | (injection eo19 with f1_ f2_ f3_; have f4_ := f1_.symm; have f5_ := f3_.symm; clear f1_ f2_ f3_; subst f4_; subst f5_))
     obtain ⟨Ao20, co20, eo20⟩ := Kd.R_slice HO429.out
     (first | subst eo20 | (injection eo20 with f1_ f2_ f3_; have f4_ := f1_.symm; have f5_ := f3_.symm; clear f1_ f2_ f3_; subst f4_; subst f5_))
     refine hK.out _ _ ⟨(blk_cell BK421.out 0).trans rfl, (blk_cell BK421.out 1).trans rfl, (blk_cell BK421.out 2).trans rfl, (blk_cell BK421.out 3).trans rfl, (blk_cell BK421.out 4).trans rfl⟩ (fun hHeld => ?_)
     clear hK K
     refine norm_ (a' := ?_) ?_ ?_
     rotate_left
     ·show Act.put _ (some 15) _ = _
      simp only [Act.put, List.setIfInBounds_toArray, List.set_cons_zero, List.set_cons_succ, i64_w, i32_w]
      rfl
     refine one_ (i := 3) (N := some 16) #[true, true, true, true, false, false, false, false, false, false, false, false, false] rfl rfl (one_of HT_.out (by kernel_rfl)) (by decide) (fun K hK => ?_)
     refine goes_ Tryz.func6 (by kernel_rfl) rfl #[.agg #[.int .i64 t412, .slice Ao10 t413.length co10, .string t416, .slice Ao11 t417.length co11, .int .i64 t420], .agg #[.int .i64 t422, .slice Ao19 t423.length co19, .string t426, .slice Ao20 t427.length co20, .int .i64 t430]] (by rfl) rfl rfl ga_ ?_
     with_reducible refine (laws_qxLeader.calls k t412 _ _ t413 t416 _ _ t417 t420 t422 _ _ t423 t426 _ _ t427 t430 true _ ?side1 ?side2 ?side3 ?side4 ?side5 ?side6 ?side7 ?side8 A13.out).mono ?_
     (case side1 => repeat (first | exact (Kd.S_reads' HO415.out).2.2 | (with_reducible refine Kd.C_alloc ?_ _) | (with_reducible refine Kd.C_drewN ?_ _) | (with_reducible refine Kd.C_drew ?_)))
     (case side2 => exact (Kd.S_reads' HO415.out).2.1)
     (case side3 => repeat (first | exact (Kd.R_reads' HO419.out).2.2 | (with_reducible refine Kd.C_alloc ?_ _) | (with_reducible refine Kd.C_drewN ?_ _) | (with_reducible refine Kd.C_drew ?_)))
     (case side4 => exact (Kd.R_reads' HO419.out).2.1)
     (case side5 => repeat (first | exact (Kd.S_reads' HO425.out).2.2 | (with_reducible refine Kd.C_alloc ?_ _) | (with_reducible refine Kd.C_drewN ?_ _) | (with_reducible refine Kd.C_drew ?_)))
     (case side6 => exact (Kd.S_reads' HO425.out).2.1)
     (case side7 => repeat (first | exact (Kd.R_reads' HO429.out).2.2 | (with_reducible refine Kd.C_alloc ?_ _) | (with_reducible refine Kd.C_drewN ?_ _) | (with_reducible refine Kd.C_drew ?_)))
     (case side8 => exact (Kd.R_reads' HO429.out).2.1)
     rintro e w21 ⟨rfl, hb⟩
     refine ⟨_, rfl, ?_⟩
     have n0_ := Aside0.mk (Kd.S_below (by (with_reducible repeat (first | apply Kd.S_alloc | apply Kd.S_drewN | apply Kd.S_drew)); exact HO415.out) hb)
     have n1_ := Aside0.mk (Kd.R_below (by (with_reducible repeat (first | apply Kd.R_alloc | apply Kd.R_drewN | apply Kd.R_drew)); exact HO419.out) hb)
     have n2_ := Aside0.mk (Kd.S_below (by (with_reducible repeat (first | apply Kd.S_alloc | apply Kd.S_drewN | apply Kd.S_drew)); exact HO425.out) hb)
     have n3_ := Aside0.mk (Kd.R_below (by (with_reducible repeat (first | apply Kd.R_alloc | apply Kd.R_drewN | apply Kd.R_drew)); exact HO429.out) hb)
     have n4_ := Aside0.mk (blk_below (g := gb421) (o := .cells #[.int .i64 t412, .slice Ao10 t413.length co10, .string t416, .slice Ao11 t417.length co11, .int .i64 t420] 31 (0, 0)) (bk_ BK421.out) hb)
     have n5_ := Aside0.mk (below_step bl_ hb)
     clear HO415
     clear HO419
     clear HO425
     clear HO429
     clear BK421
     clear HB
     have HO415 := n0_
     have HO419 := n1_
     have HO425 := n2_
     have HO429 := n3_
     have BK421 := n4_
     have HB := n5_
     clear n0_ n1_ n2_ n3_ n4_ n5_
     (try clear hb)
     (try clear hb2)
     (try clear hk)
     (try clear hi)
     refine hK.out _ _ ⟨(blk_cell BK421.out 0).trans rfl, (blk_cell BK421.out 1).trans rfl, (blk_cell BK421.out 2).trans rfl, (blk_cell BK421.out 3).trans rfl, (blk_cell BK421.out 4).trans rfl⟩ (fun hHeld => ?_)
     clear hK K
     refine norm_ (a' := ?_) ?_ ?_
     rotate_left
     ·show Act.put _ (some 16) _ = _
      simp only [Act.put, List.setIfInBounds_toArray, List.set_cons_zero, List.set_cons_succ, i64_w, i32_w]
      rfl
     refine pure_ (i := 4) (N := some 17) (v := ?_) (a' := ?_) #[true, true, true, true, true, false, false, false, false, false, false, false, false] rfl rfl (any_of HT_.out (by kernel_rfl)) (fun _ _ _ h => h) (Or.inl ⟨by rfl, ?_⟩) ?_ ?_
     rotate_left
     ·intro w'
      go_simp
      with_reducible rfl
     rotate_left
     ·simp only [Act.put, List.setIfInBounds_toArray, List.set_cons_zero, List.set_cons_succ, i64_w, i32_w]
      rfl
     refine pure_ (i := 5) (N := some 18) (v := ?_) (a' := ?_) #[true, true, true, true, true, true, false, false, false, false, false, false, false] rfl rfl (any_of HT_.out (by kernel_rfl)) (fun _ _ _ h => h) (Or.inl ⟨by rfl, ?_⟩) ?_ ?_
     rotate_left
     ·intro w'
      go_simp
      with_reducible rfl
     rotate_left
     ·simp only [Act.put, List.setIfInBounds_toArray, List.set_cons_zero, List.set_cons_succ, i64_w, i32_w]
      rfl
     refine pure_ (i := 6) (N := some 19) (v := ?_) (a' := ?_) #[true, true, true, true, true, true, true, false, false, false, false, false, false] rfl rfl (any_of HT_.out (by kernel_rfl)) (fun _ _ _ h => h) (Or.inl ⟨by rfl, ?_⟩) ?_ ?_
     rotate_left
     ·intro w'
      go_simp
      with_reducible rfl
     rotate_left
     ·simp only [Act.put, List.setIfInBounds_toArray, List.set_cons_zero, List.set_cons_succ, i64_w, i32_w]
      rfl
     refine pure_ (i := 7) (N := some 20) (v := ?_) (a' := ?_) #[true, true, true, true, true, true, true, true, false, false, false, false, false] rfl rfl (any_of HT_.out (by kernel_rfl)) (fun _ _ _ h => h) (Or.inl ⟨by rfl, ?_⟩) ?_ ?_
     rotate_left
     ·intro w'
      go_simp
      with_reducible rfl
     rotate_left
     ·simp only [Act.put, List.setIfInBounds_toArray, List.set_cons_zero, List.set_cons_succ, i64_w, i32_w]
      rfl
     refine pure_ (i := 8) (N := some 21) (v := ?_) (a' := ?_) #[true, true, true, true, true, true, true, true, true, false, false, false, false] rfl rfl (any_of HT_.out (by kernel_rfl)) (fun _ _ _ h => h) (Or.inl ⟨by rfl, ?_⟩) ?_ ?_
     rotate_left
     ·intro w'
      go_simp
      with_reducible rfl
     rotate_left
     ·simp only [Act.put, List.setIfInBounds_toArray, List.set_cons_zero, List.set_cons_succ, i64_w, i32_w]
      rfl
     refine pure_ (i := 9) (N := some 22) (v := ?_) (a' := ?_) #[true, true, true, true, true, true, true, true, true, true, false, false, false] rfl rfl (any_of HT_.out (by kernel_rfl)) (fun _ _ _ h => h) (Or.inl ⟨by rfl, ?_⟩) ?_ ?_
     rotate_left
     ·intro w'
      go_simp
      with_reducible rfl
     rotate_left
     ·simp only [Act.put, List.setIfInBounds_toArray, List.set_cons_zero, List.set_cons_succ, i64_w, i32_w]
      rfl
     refine pure_ (i := 10) (N := some 23) (v := undef) (a' := ?_) #[true, true, true, true, true, true, true, true, true, true, true, false, false] rfl rfl (any_of HT_.out (by kernel_rfl)) (fun _ _ _ h => h) (Or.inr ⟨by rfl, rfl⟩) ?_ ?_
     rotate_left
     ·simp only [Act.put, List.setIfInBounds_toArray, List.set_cons_zero, List.set_cons_succ, i64_w, i32_w]
      rfl
     refine pure_ (i := 11) (N := some 24) (v := undef) (a' := ?_) #[true, true, true, true, true, true, true, true, true, true, true, true, false] rfl rfl (any_of HT_.out (by kernel_rfl)) (fun _ _ _ h => h) (Or.inr ⟨by rfl, rfl⟩) ?_ ?_
     rotate_left
     ·simp only [Act.put, List.setIfInBounds_toArray, List.set_cons_zero, List.set_cons_succ, i64_w, i32_w]
      rfl
     refine pure_ (i := 12) (N := some 25) (v := ?_) (a' := ?_) #[true, true, true, true, true, true, true, true, true, true, true, true, true] rfl rfl (any_of HT_.out (by kernel_rfl)) (fun _ _ _ h => h) (Or.inl ⟨by rfl, ?_⟩) ?_ ?_
     rotate_left
     ·intro w'
      go_simp
      with_reducible rfl
     rotate_left
     ·simp only [Act.put, List.setIfInBounds_toArray, List.set_cons_zero, List.set_cons_succ, i64_w, i32_w]
      rfl
     refine done_ (done_of HT_.out (by kernel_rfl)) ?_
     try go_wp2
     go_meet
     case rel => exact ⟨_, (true), rs_, H', ⟨by first | omega | exact Nat.le_refl _⟩, ⟨by (with_reducible repeat (first | apply Kd.S_alloc | apply Kd.S_drewN | apply Kd.S_drew)); exact Kd.S_mono HO415.out (fun _ hk => trivial)⟩, ⟨by (with_reducible repeat (first | apply Kd.R_alloc | apply Kd.R_drewN | apply Kd.R_drew)); exact Kd.R_mono HO419.out (fun _ hk => trivial)⟩, ⟨bk_ BK421.out⟩, ⟨bl_⟩⟩
    ·rw [if_neg c15] at H
     have c15b0 : decide (t411 < 1) = false := decide_eq_false c15
     clear c15
     (first | rw [c15b0] | (simp only [i64_w, i32_w]; rw [c15b0]) | skip)
     have H' := Aside0.mk H
     clear H
     try go_wp2
     have n0_ : Aside0 (Kd.S k67 67 (((((w8.setCell ⟨gb421, 0, none⟩ (.int .i64 t412)).setCell ⟨gb421, 1, none⟩ (.slice Ao10 t413.length co10)).setCell ⟨gb421, 2, none⟩ (.string t416)).setCell ⟨gb421, 3, none⟩ (.slice Ao11 t417.length co11)).setCell ⟨gb421, 4, none⟩ (.int .i64 t420)) w.heap.size (fun _ => True) (.slice Ao10 t413.length co10) t413) := ⟨by (with_reducible repeat (first | apply Kd.S_alloc | apply Kd.S_drewN | apply Kd.S_drew)); exact Kd.S_mono (Kd.S_far (p := ⟨gb421, 4, none⟩) (Kd.S_far (p := ⟨gb421, 3, none⟩) (Kd.S_far (p := ⟨gb421, 2, none⟩) (Kd.S_far (p := ⟨gb421, 1, none⟩) (Kd.S_far (p := ⟨gb421, 0, none⟩) (Kd.S_types HO415.out BK421.out (by decide)) (fun _ hk => hk.2) (.int .i64 t412)) (fun _ hk => hk.2) (.slice Ao10 t413.length co10)) (fun _ hk => hk.2) (.string t416)) (fun _ hk => hk.2) (.slice Ao11 t417.length co11)) (fun _ hk => hk.2) (.int .i64 t420)) (fun _ hk => trivial)⟩
     have n1_ : Aside0 (Kd.R k57 57 (((((w8.setCell ⟨gb421, 0, none⟩ (.int .i64 t412)).setCell ⟨gb421, 1, none⟩ (.slice Ao10 t413.length co10)).setCell ⟨gb421, 2, none⟩ (.string t416)).setCell ⟨gb421, 3, none⟩ (.slice Ao11 t417.length co11)).setCell ⟨gb421, 4, none⟩ (.int .i64 t420)) w.heap.size (fun _ => True) (.slice Ao11 t417.length co11) t417) := ⟨by (with_reducible repeat (first | apply Kd.R_alloc | apply Kd.R_drewN | apply Kd.R_drew)); exact Kd.R_mono (Kd.R_far (p := ⟨gb421, 4, none⟩) (Kd.R_far (p := ⟨gb421, 3, none⟩) (Kd.R_far (p := ⟨gb421, 2, none⟩) (Kd.R_far (p := ⟨gb421, 1, none⟩) (Kd.R_far (p := ⟨gb421, 0, none⟩) (Kd.R_types HO419.out BK421.out (by decide)) (fun _ hk => hk.2) (.int .i64 t412)) (fun _ hk => hk.2) (.slice Ao10 t413.length co10)) (fun _ hk => hk.2) (.string t416)) (fun _ hk => hk.2) (.slice Ao11 t417.length co11)) (fun _ hk => hk.2) (.int .i64 t420)) (fun _ hk => trivial)⟩
     have n2_ : Aside0 ((((((w8.setCell ⟨gb421, 0, none⟩ (.int .i64 t412)).setCell ⟨gb421, 1, none⟩ (.slice Ao10 t413.length co10)).setCell ⟨gb421, 2, none⟩ (.string t416)).setCell ⟨gb421, 3, none⟩ (.slice Ao11 t417.length co11)).setCell ⟨gb421, 4, none⟩ (.int .i64 t420)).heap[gb421]? = some (.cells #[.int .i64 t412, .slice Ao10 t413.length co10, .string t416, .slice Ao11 t417.length co11, .int .i64 t420] 31 (0, 0))) := ⟨by (with_reducible repeat (first | refine blk_drewN ?_ _ | refine blk_drew ?_ | refine blk_alloc ?_ _)); refine blk_put (cs := #[.int .i64 t412, .slice Ao10 t413.length co10, .string t416, .slice Ao11 t417.length co11, .int .i64 0]) ?_ 4 _ rfl; (with_reducible repeat (first | refine blk_drewN ?_ _ | refine blk_drew ?_ | refine blk_alloc ?_ _)); refine blk_put (cs := #[.int .i64 t412, .slice Ao10 t413.length co10, .string t416, .slice none 0 0, .int .i64 0]) ?_ 3 _ rfl; (with_reducible repeat (first | refine blk_drewN ?_ _ | refine blk_drew ?_ | refine blk_alloc ?_ _)); refine blk_put (cs := #[.int .i64 t412, .slice Ao10 t413.length co10, .string (⟨#[]⟩ : ByteArray), .slice none 0 0, .int .i64 0]) ?_ 2 _ rfl; (with_reducible repeat (first | refine blk_drewN ?_ _ | refine blk_drew ?_ | refine blk_alloc ?_ _)); refine blk_put (cs := #[.int .i64 t412, .slice none 0 0, .string (⟨#[]⟩ : ByteArray), .slice none 0 0, .int .i64 0]) ?_ 1 _ rfl; (with_reducible repeat (first | refine blk_drewN ?_ _ | refine blk_drew ?_ | refine blk_alloc ?_ _)); refine blk_put (cs := #[.int .i64 0, .slice none 0 0, .string (⟨#[]⟩ : ByteArray), .slice none 0 0, .int .i64 0]) ?_ 0 _ rfl; (with_reducible repeat (first | refine blk_drewN ?_ _ | refine blk_drew ?_ | refine blk_alloc ?_ _)); exact BK421.out⟩
     have n3_ : Aside0 (Below w.heap.size w (((((w8.setCell ⟨gb421, 0, none⟩ (.int .i64 t412)).setCell ⟨gb421, 1, none⟩ (.slice Ao10 t413.length co10)).setCell ⟨gb421, 2, none⟩ (.string t416)).setCell ⟨gb421, 3, none⟩ (.slice Ao11 t417.length co11)).setCell ⟨gb421, 4, none⟩ (.int .i64 t420))) := ⟨bl_⟩
     (try clear HO415)
     (try clear HO419)
     (try clear BK421)
     (try clear HB)
     generalize (((((w8.setCell ⟨gb421, 0, none⟩ (.int .i64 t412)).setCell ⟨gb421, 1, none⟩ (.slice Ao10 t413.length co10)).setCell ⟨gb421, 2, none⟩ (.string t416)).setCell ⟨gb421, 3, none⟩ (.slice Ao11 t417.length co11)).setCell ⟨gb421, 4, none⟩ (.int .i64 t420)) = w22 at n0_ n1_ n2_ n3_ ⊢
     have HO415 := n0_
     have HO419 := n1_
     have BK421 := n2_
     have HB := n3_
     clear n0_ n1_ n2_ n3_
     have n0_ := Aside0.mk (Kd.S_drew HO415.out)
     have n1_ := Aside0.mk (Kd.R_drew HO419.out)
     have n2_ := Aside0.mk (blk_drew BK421.out)
     have n3_ := Aside0.mk (below_drew1 HB.out)
     clear HO415
     clear HO419
     clear BK421
     clear HB
     have HO415 := n0_
     have HO419 := n1_
     have BK421 := n2_
     have HB := n3_
     clear n0_ n1_ n2_ n3_
     refine start_ (n := 13) (S := fun w' => w'.cell? ⟨gb421, 0, none⟩ = some (.int .i64 t412) ∧ w'.cell? ⟨gb421, 1, none⟩ = some (.slice Ao10 t413.length co10) ∧ w'.cell? ⟨gb421, 2, none⟩ = some (.string t416) ∧ w'.cell? ⟨gb421, 3, none⟩ = some (.slice Ao11 t417.length co11) ∧ w'.cell? ⟨gb421, 4, none⟩ = some (.int .i64 t420)) (ds := []) #[false, false, false, false, false, false, false, false, false, false, false, false, false] (by kernel_rfl) rfl rfl ⟨(blk_cell BK421.out 0).trans rfl, (blk_cell BK421.out 1).trans rfl, (blk_cell BK421.out 2).trans rfl, (blk_cell BK421.out 3).trans rfl, (blk_cell BK421.out 4).trans rfl⟩ (fun hHeld => ?_); refine with_tabW laws_FnLeaderNew.tab5 laws_FnLeaderNew.bits5 (fun HT_ HW_ => ?_)
     generalize w22.drew = w23 at HO415 HO419 BK421 HB hHeld ⊢
     refine pure_ (i := 1) (N := some 14) (v := ?_) (a' := ?_) #[false, true, false, false, false, false, false, false, false, false, false, false, false] rfl rfl (any_of HT_.out (by kernel_rfl)) (fun _ _ _ h => h) (Or.inl ⟨by rfl, ?_⟩) ?_ ?_
     rotate_left
     ·intro w'
      go_simp
      with_reducible rfl
     rotate_left
     ·simp only [Act.put, List.setIfInBounds_toArray, List.set_cons_zero, List.set_cons_succ, i64_w, i32_w]
      rfl
     refine take_ (i := 0) (N := some 13) (v := ?_) (a' := ?_) #[true, true, false, false, false, false, false, false, false, false, false, false, false] rfl rfl (take_ofW HT_.out HW_.out (by kernel_rfl)) (fun _ _ _ h => h) (Or.inl ⟨by rfl, ?_⟩) hHeld ?_ ?_
     rotate_left
     ·rintro w' ⟨s0, s1, s2, s3, s4⟩
      go_simp
      with_reducible rfl
     rotate_left
     ·simp only [Act.put, List.setIfInBounds_toArray, List.set_cons_zero, List.set_cons_succ, i64_w, i32_w]
      rfl
     refine one_ (i := 2) (N := some 15) #[true, true, true, false, false, false, false, false, false, false, false, false, false] rfl rfl (one_of HT_.out (by kernel_rfl)) (by decide) (fun K hK => ?_)
     refine goes_ Tryz.func7 (by kernel_rfl) rfl #[.int .i64 t411] (by rfl) rfl rfl ga_ ?_
     with_reducible refine (spec_LeaderNew.calls k t411 t422 t423 t426 t427 t430 _ A12.out).mono ?_
     rintro e w24 ⟨v424, v428, rfl, ho0, ho1, hb⟩
     refine ⟨_, rfl, ?_⟩
     have n0_ := Aside0.mk (Kd.S_elder' (by (with_reducible repeat (first | apply Kd.S_alloc | apply Kd.S_drewN | apply Kd.S_drew)); exact HO415.out) (Kd.S_base ho0) hb)
     have n1_ := Aside0.mk (Kd.R_elder' (by (with_reducible repeat (first | apply Kd.R_alloc | apply Kd.R_drewN | apply Kd.R_drew)); exact HO419.out) (Kd.R_base ho1) hb)
     have n2_ := Aside0.mk (Kd.S_lower (Kd.S_new' ho0 (Kd.S_lt (by (with_reducible repeat (first | apply Kd.S_alloc | apply Kd.S_drewN | apply Kd.S_drew)); exact HO415.out))) (below_size bl_))
     have n3_ := Aside0.mk (Kd.R_lower (Kd.R_new' ho1 (Kd.R_lt (by (with_reducible repeat (first | apply Kd.R_alloc | apply Kd.R_drewN | apply Kd.R_drew)); exact HO419.out))) (below_size bl_))
     have n4_ := Aside0.mk (blk_below (g := gb421) (o := .cells #[.int .i64 t412, .slice Ao10 t413.length co10, .string t416, .slice Ao11 t417.length co11, .int .i64 t420] 31 (0, 0)) (bk_ BK421.out) hb)
     have n5_ := Aside0.mk (below_step bl_ hb)
     clear HO415
     clear HO419
     clear BK421
     clear HB
     have HO415 := n0_
     have HO419 := n1_
     have HO425 := n2_
     have HO429 := n3_
     have BK421 := n4_
     have HB := n5_
     clear n0_ n1_ n2_ n3_ n4_ n5_
     (try clear hb)
     (try clear hb2)
     (try clear hk)
     (try clear hi)
     (try clear ho0)
     (try clear ho1)
     obtain ⟨Ao25, co25, eo25⟩ := Kd.S_slice HO425.out
     (first | subst eo25 | (injection eo25 with f1_ f2_ f3_; have f4_ := f1_.symm; have f5_ := f3_.symm; clear f1_ f2_ f3_; subst f4_; subst f5_))
     obtain ⟨Ao26, co26, eo26⟩ := Kd.R_slice HO429.out
     (first | subst eo26 | (injection eo26 with f1_ f2_ f3_; have f4_ := f1_.symm; have f5_ := f3_.symm; clear f1_ f2_ f3_; subst f4_; subst f5_))
     refine hK.out _ _ ⟨(blk_cell BK421.out 0).trans rfl, (blk_cell BK421.out 1).trans rfl, (blk_cell BK421.out 2).trans rfl, (blk_cell BK421.out 3).trans rfl, (blk_cell BK421.out 4).trans rfl⟩ (fun hHeld => ?_)
     clear hK K
     refine norm_ (a' := ?_) ?_ ?_
     rotate_left
     ·show Act.put _ (some 15) _ = _
      simp only [Act.put, List.setIfInBounds_toArray, List.set_cons_zero, List.set_cons_succ, i64_w, i32_w]
      rfl
     refine one_ (i := 3) (N := some 16) #[true, true, true, true, false, false, false, false, false, false, false, false, false] rfl rfl (one_of HT_.out (by kernel_rfl)) (by decide) (fun K hK => ?_)
     refine goes_ Tryz.func6 (by kernel_rfl) rfl #[.agg #[.int .i64 t412, .slice Ao10 t413.length co10, .string t416, .slice Ao11 t417.length co11, .int .i64 t420], .agg #[.int .i64 t422, .slice Ao25 t423.length co25, .string t426, .slice Ao26 t427.length co26, .int .i64 t430]] (by rfl) rfl rfl ga_ ?_
     with_reducible refine (laws_qxLeader.calls k t412 _ _ t413 t416 _ _ t417 t420 t422 _ _ t423 t426 _ _ t427 t430 true _ ?side1 ?side2 ?side3 ?side4 ?side5 ?side6 ?side7 ?side8 A13.out).mono ?_
     (case side1 => repeat (first | exact (Kd.S_reads' HO415.out).2.2 | (with_reducible refine Kd.C_alloc ?_ _) | (with_reducible refine Kd.C_drewN ?_ _) | (with_reducible refine Kd.C_drew ?_)))
     (case side2 => exact (Kd.S_reads' HO415.out).2.1)
     (case side3 => repeat (first | exact (Kd.R_reads' HO419.out).2.2 | (with_reducible refine Kd.C_alloc ?_ _) | (with_reducible refine Kd.C_drewN ?_ _) | (with_reducible refine Kd.C_drew ?_)))
     (case side4 => exact (Kd.R_reads' HO419.out).2.1)
     (case side5 => repeat (first | exact (Kd.S_reads' HO425.out).2.2 | (with_reducible refine Kd.C_alloc ?_ _) | (with_reducible refine Kd.C_drewN ?_ _) | (with_reducible refine Kd.C_drew ?_)))
     (case side6 => exact (Kd.S_reads' HO425.out).2.1)
     (case side7 => repeat (first | exact (Kd.R_reads' HO429.out).2.2 | (with_reducible refine Kd.C_alloc ?_ _) | (with_reducible refine Kd.C_drewN ?_ _) | (with_reducible refine Kd.C_drew ?_)))
     (case side8 => exact (Kd.R_reads' HO429.out).2.1)
     rintro e w27 ⟨rfl, hb⟩
     refine ⟨_, rfl, ?_⟩
     have n0_ := Aside0.mk (Kd.S_below (by (with_reducible repeat (first | apply Kd.S_alloc | apply Kd.S_drewN | apply Kd.S_drew)); exact HO415.out) hb)
     have n1_ := Aside0.mk (Kd.R_below (by (with_reducible repeat (first | apply Kd.R_alloc | apply Kd.R_drewN | apply Kd.R_drew)); exact HO419.out) hb)
     have n2_ := Aside0.mk (Kd.S_below (by (with_reducible repeat (first | apply Kd.S_alloc | apply Kd.S_drewN | apply Kd.S_drew)); exact HO425.out) hb)
     have n3_ := Aside0.mk (Kd.R_below (by (with_reducible repeat (first | apply Kd.R_alloc | apply Kd.R_drewN | apply Kd.R_drew)); exact HO429.out) hb)
     have n4_ := Aside0.mk (blk_below (g := gb421) (o := .cells #[.int .i64 t412, .slice Ao10 t413.length co10, .string t416, .slice Ao11 t417.length co11, .int .i64 t420] 31 (0, 0)) (bk_ BK421.out) hb)
     have n5_ := Aside0.mk (below_step bl_ hb)
     clear HO415
     clear HO419
     clear HO425
     clear HO429
     clear BK421
     clear HB
     have HO415 := n0_
     have HO419 := n1_
     have HO425 := n2_
     have HO429 := n3_
     have BK421 := n4_
     have HB := n5_
     clear n0_ n1_ n2_ n3_ n4_ n5_
     (try clear hb)
     (try clear hb2)
     (try clear hk)
     (try clear hi)
     refine hK.out _ _ ⟨(blk_cell BK421.out 0).trans rfl, (blk_cell BK421.out 1).trans rfl, (blk_cell BK421.out 2).trans rfl, (blk_cell BK421.out 3).trans rfl, (blk_cell BK421.out 4).trans rfl⟩ (fun hHeld => ?_)
     clear hK K
     refine norm_ (a' := ?_) ?_ ?_
     rotate_left
     ·show Act.put _ (some 16) _ = _
      simp only [Act.put, List.setIfInBounds_toArray, List.set_cons_zero, List.set_cons_succ, i64_w, i32_w]
      rfl
     refine pure_ (i := 4) (N := some 17) (v := ?_) (a' := ?_) #[true, true, true, true, true, false, false, false, false, false, false, false, false] rfl rfl (any_of HT_.out (by kernel_rfl)) (fun _ _ _ h => h) (Or.inl ⟨by rfl, ?_⟩) ?_ ?_
     rotate_left
     ·intro w'
      go_simp
      with_reducible rfl
     rotate_left
     ·simp only [Act.put, List.setIfInBounds_toArray, List.set_cons_zero, List.set_cons_succ, i64_w, i32_w]
      rfl
     refine pure_ (i := 5) (N := some 18) (v := ?_) (a' := ?_) #[true, true, true, true, true, true, false, false, false, false, false, false, false] rfl rfl (any_of HT_.out (by kernel_rfl)) (fun _ _ _ h => h) (Or.inl ⟨by rfl, ?_⟩) ?_ ?_
     rotate_left
     ·intro w'
      go_simp
      with_reducible rfl
     rotate_left
     ·simp only [Act.put, List.setIfInBounds_toArray, List.set_cons_zero, List.set_cons_succ, i64_w, i32_w]
      rfl
     refine pure_ (i := 6) (N := some 19) (v := ?_) (a' := ?_) #[true, true, true, true, true, true, true, false, false, false, false, false, false] rfl rfl (any_of HT_.out (by kernel_rfl)) (fun _ _ _ h => h) (Or.inl ⟨by rfl, ?_⟩) ?_ ?_
     rotate_left
     ·intro w'
      go_simp
      with_reducible rfl
     rotate_left
     ·simp only [Act.put, List.setIfInBounds_toArray, List.set_cons_zero, List.set_cons_succ, i64_w, i32_w]
      rfl
     refine pure_ (i := 7) (N := some 20) (v := ?_) (a' := ?_) #[true, true, true, true, true, true, true, true, false, false, false, false, false] rfl rfl (any_of HT_.out (by kernel_rfl)) (fun _ _ _ h => h) (Or.inl ⟨by rfl, ?_⟩) ?_ ?_
     rotate_left
     ·intro w'
      go_simp
      with_reducible rfl
     rotate_left
     ·simp only [Act.put, List.setIfInBounds_toArray, List.set_cons_zero, List.set_cons_succ, i64_w, i32_w]
      rfl
     refine pure_ (i := 8) (N := some 21) (v := ?_) (a' := ?_) #[true, true, true, true, true, true, true, true, true, false, false, false, false] rfl rfl (any_of HT_.out (by kernel_rfl)) (fun _ _ _ h => h) (Or.inl ⟨by rfl, ?_⟩) ?_ ?_
     rotate_left
     ·intro w'
      go_simp
      with_reducible rfl
     rotate_left
     ·simp only [Act.put, List.setIfInBounds_toArray, List.set_cons_zero, List.set_cons_succ, i64_w, i32_w]
      rfl
     refine pure_ (i := 9) (N := some 22) (v := ?_) (a' := ?_) #[true, true, true, true, true, true, true, true, true, true, false, false, false] rfl rfl (any_of HT_.out (by kernel_rfl)) (fun _ _ _ h => h) (Or.inl ⟨by rfl, ?_⟩) ?_ ?_
     rotate_left
     ·intro w'
      go_simp
      with_reducible rfl
     rotate_left
     ·simp only [Act.put, List.setIfInBounds_toArray, List.set_cons_zero, List.set_cons_succ, i64_w, i32_w]
      rfl
     refine pure_ (i := 10) (N := some 23) (v := ?_) (a' := ?_) #[true, true, true, true, true, true, true, true, true, true, true, false, false] rfl rfl (any_of HT_.out (by kernel_rfl)) (fun _ _ _ h => h) (Or.inl ⟨by rfl, ?_⟩) ?_ ?_
     rotate_left
     ·intro w'
      go_simp
      with_reducible rfl
     rotate_left
     ·simp only [Act.put, List.setIfInBounds_toArray, List.set_cons_zero, List.set_cons_succ, i64_w, i32_w]
      rfl
     refine pure_ (i := 11) (N := some 24) (v := ?_) (a' := ?_) #[true, true, true, true, true, true, true, true, true, true, true, true, false] rfl rfl (any_of HT_.out (by kernel_rfl)) (fun _ _ _ h => h) (Or.inl ⟨by rfl, ?_⟩) ?_ ?_
     rotate_left
     ·intro w'
      go_simp
      with_reducible rfl
     rotate_left
     ·simp only [Act.put, List.setIfInBounds_toArray, List.set_cons_zero, List.set_cons_succ, i64_w, i32_w]
      rfl
     refine pure_ (i := 12) (N := some 25) (v := ?_) (a' := ?_) #[true, true, true, true, true, true, true, true, true, true, true, true, true] rfl rfl (any_of HT_.out (by kernel_rfl)) (fun _ _ _ h => h) (Or.inl ⟨by rfl, ?_⟩) ?_ ?_
     rotate_left
     ·intro w'
      go_simp
      with_reducible rfl
     rotate_left
     ·simp only [Act.put, List.setIfInBounds_toArray, List.set_cons_zero, List.set_cons_succ, i64_w, i32_w]
      rfl
     refine done_ (done_of HT_.out (by kernel_rfl)) ?_
     try go_wp2
     go_meet
     case rel => exact ⟨_, (decide (t411 > 3)), rs_, H', ⟨by first | omega | exact Nat.le_refl _⟩, ⟨by (with_reducible repeat (first | apply Kd.S_alloc | apply Kd.S_drewN | apply Kd.S_drew)); exact Kd.S_mono HO415.out (fun _ hk => trivial)⟩, ⟨by (with_reducible repeat (first | apply Kd.R_alloc | apply Kd.R_drewN | apply Kd.R_drew)); exact Kd.R_mono HO419.out (fun _ hk => trivial)⟩, ⟨bk_ BK421.out⟩, ⟨bl_⟩⟩
   ·replace c14 := Bool.eq_false_iff.mpr c14
    subst c14
    have H1 : (laws_FnLeaderNew.j0 k t411 true t412 t413 t416 t417 t420) = some r := by rw [if_neg (show ¬ (false = true) by decide)] at H; exact H
    clear H
    have H := H1
    clear H1
    have H' := Aside0.mk H
    clear H
    try go_wp2
    have n0_ : Aside0 (Kd.S k67 67 (((((w8.setCell ⟨gb421, 0, none⟩ (.int .i64 t412)).setCell ⟨gb421, 1, none⟩ (.slice Ao10 t413.length co10)).setCell ⟨gb421, 2, none⟩ (.string t416)).setCell ⟨gb421, 3, none⟩ (.slice Ao11 t417.length co11)).setCell ⟨gb421, 4, none⟩ (.int .i64 t420)) w.heap.size (fun _ => True) (.slice Ao10 t413.length co10) t413) := ⟨by (with_reducible repeat (first | apply Kd.S_alloc | apply Kd.S_drewN | apply Kd.S_drew)); exact Kd.S_mono (Kd.S_far (p := ⟨gb421, 4, none⟩) (Kd.S_far (p := ⟨gb421, 3, none⟩) (Kd.S_far (p := ⟨gb421, 2, none⟩) (Kd.S_far (p := ⟨gb421, 1, none⟩) (Kd.S_far (p := ⟨gb421, 0, none⟩) (Kd.S_types HO415.out BK421.out (by decide)) (fun _ hk => hk.2) (.int .i64 t412)) (fun _ hk => hk.2) (.slice Ao10 t413.length co10)) (fun _ hk => hk.2) (.string t416)) (fun _ hk => hk.2) (.slice Ao11 t417.length co11)) (fun _ hk => hk.2) (.int .i64 t420)) (fun _ hk => trivial)⟩
    have n1_ : Aside0 (Kd.R k57 57 (((((w8.setCell ⟨gb421, 0, none⟩ (.int .i64 t412)).setCell ⟨gb421, 1, none⟩ (.slice Ao10 t413.length co10)).setCell ⟨gb421, 2, none⟩ (.string t416)).setCell ⟨gb421, 3, none⟩ (.slice Ao11 t417.length co11)).setCell ⟨gb421, 4, none⟩ (.int .i64 t420)) w.heap.size (fun _ => True) (.slice Ao11 t417.length co11) t417) := ⟨by (with_reducible repeat (first | apply Kd.R_alloc | apply Kd.R_drewN | apply Kd.R_drew)); exact Kd.R_mono (Kd.R_far (p := ⟨gb421, 4, none⟩) (Kd.R_far (p := ⟨gb421, 3, none⟩) (Kd.R_far (p := ⟨gb421, 2, none⟩) (Kd.R_far (p := ⟨gb421, 1, none⟩) (Kd.R_far (p := ⟨gb421, 0, none⟩) (Kd.R_types HO419.out BK421.out (by decide)) (fun _ hk => hk.2) (.int .i64 t412)) (fun _ hk => hk.2) (.slice Ao10 t413.length co10)) (fun _ hk => hk.2) (.string t416)) (fun _ hk => hk.2) (.slice Ao11 t417.length co11)) (fun _ hk => hk.2) (.int .i64 t420)) (fun _ hk => trivial)⟩
    have n2_ : Aside0 ((((((w8.setCell ⟨gb421, 0, none⟩ (.int .i64 t412)).setCell ⟨gb421, 1, none⟩ (.slice Ao10 t413.length co10)).setCell ⟨gb421, 2, none⟩ (.string t416)).setCell ⟨gb421, 3, none⟩ (.slice Ao11 t417.length co11)).setCell ⟨gb421, 4, none⟩ (.int .i64 t420)).heap[gb421]? = some (.cells #[.int .i64 t412, .slice Ao10 t413.length co10, .string t416, .slice Ao11 t417.length co11, .int .i64 t420] 31 (0, 0))) := ⟨by (with_reducible repeat (first | refine blk_drewN ?_ _ | refine blk_drew ?_ | refine blk_alloc ?_ _)); refine blk_put (cs := #[.int .i64 t412, .slice Ao10 t413.length co10, .string t416, .slice Ao11 t417.length co11, .int .i64 0]) ?_ 4 _ rfl; (with_reducible repeat (first | refine blk_drewN ?_ _ | refine blk_drew ?_ | refine blk_alloc ?_ _)); refine blk_put (cs := #[.int .i64 t412, .slice Ao10 t413.length co10, .string t416, .slice none 0 0, .int .i64 0]) ?_ 3 _ rfl; (with_reducible repeat (first | refine blk_drewN ?_ _ | refine blk_drew ?_ | refine blk_alloc ?_ _)); refine blk_put (cs := #[.int .i64 t412, .slice Ao10 t413.length co10, .string (⟨#[]⟩ : ByteArray), .slice none 0 0, .int .i64 0]) ?_ 2 _ rfl; (with_reducible repeat (first | refine blk_drewN ?_ _ | refine blk_drew ?_ | refine blk_alloc ?_ _)); refine blk_put (cs := #[.int .i64 t412, .slice none 0 0, .string (⟨#[]⟩ : ByteArray), .slice none 0 0, .int .i64 0]) ?_ 1 _ rfl; (with_reducible repeat (first | refine blk_drewN ?_ _ | refine blk_drew ?_ | refine blk_alloc ?_ _)); refine blk_put (cs := #[.int .i64 0, .slice none 0 0, .string (⟨#[]⟩ : ByteArray), .slice none 0 0, .int .i64 0]) ?_ 0 _ rfl; (with_reducible repeat (first | refine blk_drewN ?_ _ | refine blk_drew ?_ | refine blk_alloc ?_ _)); exact BK421.out⟩
    have n3_ : Aside0 (Below w.heap.size w (((((w8.setCell ⟨gb421, 0, none⟩ (.int .i64 t412)).setCell ⟨gb421, 1, none⟩ (.slice Ao10 t413.length co10)).setCell ⟨gb421, 2, none⟩ (.string t416)).setCell ⟨gb421, 3, none⟩ (.slice Ao11 t417.length co11)).setCell ⟨gb421, 4, none⟩ (.int .i64 t420))) := ⟨bl_⟩
    (try clear HO415)
    (try clear HO419)
    (try clear BK421)
    (try clear HB)
    generalize (((((w8.setCell ⟨gb421, 0, none⟩ (.int .i64 t412)).setCell ⟨gb421, 1, none⟩ (.slice Ao10 t413.length co10)).setCell ⟨gb421, 2, none⟩ (.string t416)).setCell ⟨gb421, 3, none⟩ (.slice Ao11 t417.length co11)).setCell ⟨gb421, 4, none⟩ (.int .i64 t420)) = w28 at n0_ n1_ n2_ n3_ ⊢
    have HO415 := n0_
    have HO419 := n1_
    have BK421 := n2_
    have HB := n3_
    clear n0_ n1_ n2_ n3_
    have n0_ := Aside0.mk (Kd.S_drew HO415.out)
    have n1_ := Aside0.mk (Kd.R_drew HO419.out)
    have n2_ := Aside0.mk (blk_drew BK421.out)
    have n3_ := Aside0.mk (below_drew1 HB.out)
    clear HO415
    clear HO419
    clear BK421
    clear HB
    have HO415 := n0_
    have HO419 := n1_
    have BK421 := n2_
    have HB := n3_
    clear n0_ n1_ n2_ n3_
    refine start_ (n := 13) (S := fun w' => w'.cell? ⟨gb421, 0, none⟩ = some (.int .i64 t412) ∧ w'.cell? ⟨gb421, 1, none⟩ = some (.slice Ao10 t413.length co10) ∧ w'.cell? ⟨gb421, 2, none⟩ = some (.string t416) ∧ w'.cell? ⟨gb421, 3, none⟩ = some (.slice Ao11 t417.length co11) ∧ w'.cell? ⟨gb421, 4, none⟩ = some (.int .i64 t420)) (ds := []) #[false, false, false, false, false, false, false, false, false, false, false, false, false] (by kernel_rfl) rfl rfl ⟨(blk_cell BK421.out 0).trans rfl, (blk_cell BK421.out 1).trans rfl, (blk_cell BK421.out 2).trans rfl, (blk_cell BK421.out 3).trans rfl, (blk_cell BK421.out 4).trans rfl⟩ (fun hHeld => ?_); refine with_tabW laws_FnLeaderNew.tab5 laws_FnLeaderNew.bits5 (fun HT_ HW_ => ?_)
    generalize w28.drew = w29 at HO415 HO419 BK421 HB hHeld ⊢
    refine pure_ (i := 1) (N := some 14) (v := ?_) (a' := ?_) #[false, true, false, false, false, false, false, false, false, false, false, false, false] rfl rfl (any_of HT_.out (by kernel_rfl)) (fun _ _ _ h => h) (Or.inl ⟨by rfl, ?_⟩) ?_ ?_
    rotate_left
    ·intro w'
     go_simp
     with_reducible rfl
    rotate_left
    ·simp only [Act.put, List.setIfInBounds_toArray, List.set_cons_zero, List.set_cons_succ, i64_w, i32_w]
     rfl
    refine take_ (i := 0) (N := some 13) (v := ?_) (a' := ?_) #[true, true, false, false, false, false, false, false, false, false, false, false, false] rfl rfl (take_ofW HT_.out HW_.out (by kernel_rfl)) (fun _ _ _ h => h) (Or.inl ⟨by rfl, ?_⟩) hHeld ?_ ?_
    rotate_left
    ·rintro w' ⟨s0, s1, s2, s3, s4⟩
     go_simp
     with_reducible rfl
    rotate_left
    ·simp only [Act.put, List.setIfInBounds_toArray, List.set_cons_zero, List.set_cons_succ, i64_w, i32_w]
     rfl
    refine one_ (i := 2) (N := some 15) #[true, true, true, false, false, false, false, false, false, false, false, false, false] rfl rfl (one_of HT_.out (by kernel_rfl)) (by decide) (fun K hK => ?_)
    refine goes_ Tryz.func7 (by kernel_rfl) rfl #[.int .i64 t411] (by rfl) rfl rfl ga_ ?_
    with_reducible refine (spec_LeaderNew.calls k t411 t422 t423 t426 t427 t430 _ A12.out).mono ?_
    rintro e w30 ⟨v424, v428, rfl, ho0, ho1, hb⟩
    refine ⟨_, rfl, ?_⟩
    have n0_ := Aside0.mk (Kd.S_elder' (by (with_reducible repeat (first | apply Kd.S_alloc | apply Kd.S_drewN | apply Kd.S_drew)); exact HO415.out) (Kd.S_base ho0) hb)
    have n1_ := Aside0.mk (Kd.R_elder' (by (with_reducible repeat (first | apply Kd.R_alloc | apply Kd.R_drewN | apply Kd.R_drew)); exact HO419.out) (Kd.R_base ho1) hb)
    have n2_ := Aside0.mk (Kd.S_lower (Kd.S_new' ho0 (Kd.S_lt (by (with_reducible repeat (first | apply Kd.S_alloc | apply Kd.S_drewN | apply Kd.S_drew)); exact HO415.out))) (below_size bl_))
    have n3_ := Aside0.mk (Kd.R_lower (Kd.R_new' ho1 (Kd.R_lt (by (with_reducible repeat (first | apply Kd.R_alloc | apply Kd.R_drewN | apply Kd.R_drew)); exact HO419.out))) (below_size bl_))
    have n4_ := Aside0.mk (blk_below (g := gb421) (o := .cells #[.int .i64 t412, .slice Ao10 t413.length co10, .string t416, .slice Ao11 t417.length co11, .int .i64 t420] 31 (0, 0)) (bk_ BK421.out) hb)
    have n5_ := Aside0.mk (below_step bl_ hb)
    clear HO415
    clear HO419
    clear BK421
    clear HB
    have HO415 := n0_
    have HO419 := n1_
    have HO425 := n2_
    have HO429 := n3_
    have BK421 := n4_
    have HB := n5_
    clear n0_ n1_ n2_ n3_ n4_ n5_
    (try clear hb)
    (try clear hb2)
    (try clear hk)
    (try clear hi)
    (try clear ho0)
    (try clear ho1)
    obtain ⟨Ao31, co31, eo31⟩ := Kd.S_slice HO425.out
    (first | subst eo31 | (injection eo31 with f1_ f2_ f3_; have f4_ := f1_.symm; have f5_ := f3_.symm; clear f1_ f2_ f3_; subst f4_; subst f5_))
    obtain ⟨Ao32, co32, eo32⟩ := Kd.R_slice HO429.out
    (first | subst eo32 | (injection eo32 with f1_ f2_ f3_; have f4_ := f1_.symm; have f5_ := f3_.symm; clear f1_ f2_ f3_; subst f4_; subst f5_))
    refine hK.out _ _ ⟨(blk_cell BK421.out 0).trans rfl, (blk_cell BK421.out 1).trans rfl, (blk_cell BK421.out 2).trans rfl, (blk_cell BK421.out 3).trans rfl, (blk_cell BK421.out 4).trans rfl⟩ (fun hHeld => ?_)
    clear hK K
    refine norm_ (a' := ?_) ?_ ?_
    rotate_left
    ·show Act.put _ (some 15) _ = _
     simp only [Act.put, List.setIfInBounds_toArray, List.set_cons_zero, List.set_cons_succ, i64_w, i32_w]
     rfl
    refine one_ (i := 3) (N := some 16) #[true, true, true, true, false, false, false, false, false, false, false, false, false] rfl rfl (one_of HT_.out (by kernel_rfl)) (by decide) (fun K hK => ?_)
    refine goes_ Tryz.func6 (by kernel_rfl) rfl #[.agg #[.int .i64 t412, .slice Ao10 t413.length co10, .string t416, .slice Ao11 t417.length co11, .int .i64 t420], .agg #[.int .i64 t422, .slice Ao31 t423.length co31, .string t426, .slice Ao32 t427.length co32, .int .i64 t430]] (by rfl) rfl rfl ga_ ?_
    with_reducible refine (laws_qxLeader.calls k t412 _ _ t413 t416 _ _ t417 t420 t422 _ _ t423 t426 _ _ t427 t430 false _ ?side1 ?side2 ?side3 ?side4 ?side5 ?side6 ?side7 ?side8 A13.out).mono ?_
    (case side1 => repeat (first | exact (Kd.S_reads' HO415.out).2.2 | (with_reducible refine Kd.C_alloc ?_ _) | (with_reducible refine Kd.C_drewN ?_ _) | (with_reducible refine Kd.C_drew ?_)))
    (case side2 => exact (Kd.S_reads' HO415.out).2.1)
    (case side3 => repeat (first | exact (Kd.R_reads' HO419.out).2.2 | (with_reducible refine Kd.C_alloc ?_ _) | (with_reducible refine Kd.C_drewN ?_ _) | (with_reducible refine Kd.C_drew ?_)))
    (case side4 => exact (Kd.R_reads' HO419.out).2.1)
    (case side5 => repeat (first | exact (Kd.S_reads' HO425.out).2.2 | (with_reducible refine Kd.C_alloc ?_ _) | (with_reducible refine Kd.C_drewN ?_ _) | (with_reducible refine Kd.C_drew ?_)))
    (case side6 => exact (Kd.S_reads' HO425.out).2.1)
    (case side7 => repeat (first | exact (Kd.R_reads' HO429.out).2.2 | (with_reducible refine Kd.C_alloc ?_ _) | (with_reducible refine Kd.C_drewN ?_ _) | (with_reducible refine Kd.C_drew ?_)))
    (case side8 => exact (Kd.R_reads' HO429.out).2.1)
    rintro e w33 ⟨rfl, hb⟩
    refine ⟨_, rfl, ?_⟩
    have n0_ := Aside0.mk (Kd.S_below (by (with_reducible repeat (first | apply Kd.S_alloc | apply Kd.S_drewN | apply Kd.S_drew)); exact HO415.out) hb)
    have n1_ := Aside0.mk (Kd.R_below (by (with_reducible repeat (first | apply Kd.R_alloc | apply Kd.R_drewN | apply Kd.R_drew)); exact HO419.out) hb)
    have n2_ := Aside0.mk (Kd.S_below (by (with_reducible repeat (first | apply Kd.S_alloc | apply Kd.S_drewN | apply Kd.S_drew)); exact HO425.out) hb)
    have n3_ := Aside0.mk (Kd.R_below (by (with_reducible repeat (first | apply Kd.R_alloc | apply Kd.R_drewN | apply Kd.R_drew)); exact HO429.out) hb)
    have n4_ := Aside0.mk (blk_below (g := gb421) (o := .cells #[.int .i64 t412, .slice Ao10 t413.length co10, .string t416, .slice Ao11 t417.length co11, .int .i64 t420] 31 (0, 0)) (bk_ BK421.out) hb)
    have n5_ := Aside0.mk (below_step bl_ hb)
    clear HO415
    clear HO419
    clear HO425
    clear HO429
    clear BK421
    clear HB
    have HO415 := n0_
    have HO419 := n1_
    have HO425 := n2_
    have HO429 := n3_
    have BK421 := n4_
    have HB := n5_
    clear n0_ n1_ n2_ n3_ n4_ n5_
    (try clear hb)
    (try clear hb2)
    (try clear hk)
    (try clear hi)
    refine hK.out _ _ ⟨(blk_cell BK421.out 0).trans rfl, (blk_cell BK421.out 1).trans rfl, (blk_cell BK421.out 2).trans rfl, (blk_cell BK421.out 3).trans rfl, (blk_cell BK421.out 4).trans rfl⟩ (fun hHeld => ?_)
    clear hK K
    refine norm_ (a' := ?_) ?_ ?_
    rotate_left
    ·show Act.put _ (some 16) _ = _
     simp only [Act.put, List.setIfInBounds_toArray, List.set_cons_zero, List.set_cons_succ, i64_w, i32_w]
     rfl
    refine pure_ (i := 4) (N := some 17) (v := ?_) (a' := ?_) #[true, true, true, true, true, false, false, false, false, false, false, false, false] rfl rfl (any_of HT_.out (by kernel_rfl)) (fun _ _ _ h => h) (Or.inl ⟨by rfl, ?_⟩) ?_ ?_
    rotate_left
    ·intro w'
     go_simp
     with_reducible rfl
    rotate_left
    ·simp only [Act.put, List.setIfInBounds_toArray, List.set_cons_zero, List.set_cons_succ, i64_w, i32_w]
     rfl
    refine pure_ (i := 5) (N := some 18) (v := ?_) (a' := ?_) #[true, true, true, true, true, true, false, false, false, false, false, false, false] rfl rfl (any_of HT_.out (by kernel_rfl)) (fun _ _ _ h => h) (Or.inl ⟨by rfl, ?_⟩) ?_ ?_
    rotate_left
    ·intro w'
     go_simp
     with_reducible rfl
    rotate_left
    ·simp only [Act.put, List.setIfInBounds_toArray, List.set_cons_zero, List.set_cons_succ, i64_w, i32_w]
     rfl
    refine pure_ (i := 6) (N := some 19) (v := undef) (a' := ?_) #[true, true, true, true, true, true, true, false, false, false, false, false, false] rfl rfl (any_of HT_.out (by kernel_rfl)) (fun _ _ _ h => h) (Or.inr ⟨by rfl, rfl⟩) ?_ ?_
    rotate_left
    ·simp only [Act.put, List.setIfInBounds_toArray, List.set_cons_zero, List.set_cons_succ, i64_w, i32_w]
     rfl
    refine pure_ (i := 7) (N := some 20) (v := undef) (a' := ?_) #[true, true, true, true, true, true, true, true, false, false, false, false, false] rfl rfl (any_of HT_.out (by kernel_rfl)) (fun _ _ _ h => h) (Or.inr ⟨by rfl, rfl⟩) ?_ ?_
    rotate_left
    ·simp only [Act.put, List.setIfInBounds_toArray, List.set_cons_zero, List.set_cons_succ, i64_w, i32_w]
     rfl
    refine pure_ (i := 8) (N := some 21) (v := ?_) (a' := ?_) #[true, true, true, true, true, true, true, true, true, false, false, false, false] rfl rfl (any_of HT_.out (by kernel_rfl)) (fun _ _ _ h => h) (Or.inl ⟨by rfl, ?_⟩) ?_ ?_
    rotate_left
    ·intro w'
     go_simp
     with_reducible rfl
    rotate_left
    ·simp only [Act.put, List.setIfInBounds_toArray, List.set_cons_zero, List.set_cons_succ, i64_w, i32_w]
     rfl
    refine pure_ (i := 9) (N := some 22) (v := ?_) (a' := ?_) #[true, true, true, true, true, true, true, true, true, true, false, false, false] rfl rfl (any_of HT_.out (by kernel_rfl)) (fun _ _ _ h => h) (Or.inl ⟨by rfl, ?_⟩) ?_ ?_
    rotate_left
    ·intro w'
     go_simp
     with_reducible rfl
    rotate_left
    ·simp only [Act.put, List.setIfInBounds_toArray, List.set_cons_zero, List.set_cons_succ, i64_w, i32_w]
     rfl
    refine pure_ (i := 10) (N := some 23) (v := undef) (a' := ?_) #[true, true, true, true, true, true, true, true, true, true, true, false, false] rfl rfl (any_of HT_.out (by kernel_rfl)) (fun _ _ _ h => h) (Or.inr ⟨by rfl, rfl⟩) ?_ ?_
    rotate_left
    ·simp only [Act.put, List.setIfInBounds_toArray, List.set_cons_zero, List.set_cons_succ, i64_w, i32_w]
     rfl
    refine pure_ (i := 11) (N := some 24) (v := undef) (a' := ?_) #[true, true, true, true, true, true, true, true, true, true, true, true, false] rfl rfl (any_of HT_.out (by kernel_rfl)) (fun _ _ _ h => h) (Or.inr ⟨by rfl, rfl⟩) ?_ ?_
    rotate_left
    ·simp only [Act.put, List.setIfInBounds_toArray, List.set_cons_zero, List.set_cons_succ, i64_w, i32_w]
     rfl
    refine pure_ (i := 12) (N := some 25) (v := ?_) (a' := ?_) #[true, true, true, true, true, true, true, true, true, true, true, true, true] rfl rfl (any_of HT_.out (by kernel_rfl)) (fun _ _ _ h => h) (Or.inl ⟨by rfl, ?_⟩) ?_ ?_
    rotate_left
    ·intro w'
     go_simp
     with_reducible rfl
    rotate_left
    ·simp only [Act.put, List.setIfInBounds_toArray, List.set_cons_zero, List.set_cons_succ, i64_w, i32_w]
     rfl
    refine done_ (done_of HT_.out (by kernel_rfl)) ?_
    try go_wp2
    go_meet
    case rel => exact ⟨_, (true), rs_, H', ⟨by first | omega | exact Nat.le_refl _⟩, ⟨by (with_reducible repeat (first | apply Kd.S_alloc | apply Kd.S_drewN | apply Kd.S_drew)); exact Kd.S_mono HO415.out (fun _ hk => trivial)⟩, ⟨by (with_reducible repeat (first | apply Kd.R_alloc | apply Kd.R_drewN | apply Kd.R_drew)); exact Kd.R_mono HO419.out (fun _ hk => trivial)⟩, ⟨bk_ BK421.out⟩, ⟨bl_⟩⟩
  case rest =>
   clear HC5
   try clear c1
   try clear p2
   try clear c6
   try clear c7
   try clear c14
   try clear c15
   try clear c15b0
   obtain ⟨kq, x25_4, rfl, HA, HJ4, HO_422001, HO_422003, BK421, HB⟩ := hcut
   cases kq with
   | zero => exact absurd HA.out (by simp [laws_FnLeaderNew.j0])
   | succ kj4 =>
    have H := HA.out
    clear HA
    simp only [laws_FnLeaderNew.j0] at H
    by_cases c34 : x25_4 = true
    ·subst c34
     have H1 : ((spec_LeaderNew.f kj4 t411).bind fun bt432 => ((laws_qxLeader.f kj4 t412 t413 t416 t417 t420 bt432.1 bt432.2.1 bt432.2.2.1 bt432.2.2.2.1 bt432.2.2.2.2).bind fun t441 => (some t441))) = some r := by rw [if_pos rfl] at H; exact H
     clear H
     have H := H1
     clear H1
     replace H := Option.bind_eq_some_iff.mp H
     obtain ⟨⟨t432, t433, t436, t437, t440⟩, A350, H⟩ := H
     replace H : ((laws_qxLeader.f kj4 t412 t413 t416 t417 t420 t432 t433 t436 t437 t440).bind fun t441 => (some t441)) = some r := H
     have A35 := Aside0.mk A350
     clear A350
     replace H := Option.bind_eq_some_iff.mp H
     obtain ⟨t441, A360, H⟩ := H
     replace H : (some t441) = some r := H
     have A36 := Aside0.mk A360
     clear A360
     obtain rfl := Option.some.inj H
     try go_wp2
     have n0_ := Aside0.mk (Kd.S_drew HO_422001.out)
     have n1_ := Aside0.mk (Kd.R_drew HO_422003.out)
     have n2_ := Aside0.mk (blk_drew BK421.out)
     have n3_ := Aside0.mk (below_drew1 HB.out)
     clear HO_422001
     clear HO_422003
     clear BK421
     clear HB
     have HO_422001 := n0_
     have HO_422003 := n1_
     have BK421 := n2_
     have HB := n3_
     clear n0_ n1_ n2_ n3_
     refine start_ (n := 5) (S := fun w' => w'.cell? ⟨gb421, 0, none⟩ = some (.int .i64 t412) ∧ w'.cell? ⟨gb421, 1, none⟩ = some (.slice Ao10 t413.length co10) ∧ w'.cell? ⟨gb421, 2, none⟩ = some (.string t416) ∧ w'.cell? ⟨gb421, 3, none⟩ = some (.slice Ao11 t417.length co11) ∧ w'.cell? ⟨gb421, 4, none⟩ = some (.int .i64 t420)) (ds := []) #[false, false, false, false, false] (by kernel_rfl) rfl rfl ⟨(blk_cell BK421.out 0).trans rfl, (blk_cell BK421.out 1).trans rfl, (blk_cell BK421.out 2).trans rfl, (blk_cell BK421.out 3).trans rfl, (blk_cell BK421.out 4).trans rfl⟩ (fun hHeld => ?_)
     generalize wc.drew = w37 at HO_422001 HO_422003 BK421 HB hHeld ⊢
     refine pure_ (i := 1) (N := some 27) (v := ?_) (a' := ?_) #[false, true, false, false, false] rfl rfl (by kernel_rfl) (fun _ _ _ h => h) (Or.inl ⟨by rfl, ?_⟩) ?_ ?_
     rotate_left
     ·intro w'
      go_simp
      with_reducible rfl
     rotate_left
     ·simp only [Act.put, List.setIfInBounds_toArray, List.set_cons_zero, List.set_cons_succ, i64_w, i32_w]
      rfl
     refine take_ (i := 0) (N := some 26) (v := ?_) (a' := ?_) #[true, true, false, false, false] rfl rfl (by kernel_rfl) (fun _ _ _ h => h) (Or.inl ⟨by rfl, ?_⟩) hHeld ?_ ?_
     rotate_left
     ·rintro w' ⟨s0, s1, s2, s3, s4⟩
      go_simp
      with_reducible rfl
     rotate_left
     ·simp only [Act.put, List.setIfInBounds_toArray, List.set_cons_zero, List.set_cons_succ, i64_w, i32_w]
      rfl
     refine one_ (i := 2) (N := some 28) #[true, true, true, false, false] rfl rfl (by kernel_rfl) (by decide) (fun K hK => ?_)
     refine goes_ Tryz.func7 (by kernel_rfl) rfl #[.int .i64 t411] (by rfl) rfl rfl ga_ ?_
     with_reducible refine (spec_LeaderNew.calls kj4 t411 t432 t433 t436 t437 t440 _ A35.out).mono ?_
     rintro e w38 ⟨v434, v438, rfl, ho0, ho1, hb⟩
     refine ⟨_, rfl, ?_⟩
     have n0_ := Aside0.mk (Kd.S_elder' (by (with_reducible repeat (first | apply Kd.S_alloc | apply Kd.S_drewN | apply Kd.S_drew)); exact HO_422001.out) (Kd.S_base ho0) hb)
     have n1_ := Aside0.mk (Kd.R_elder' (by (with_reducible repeat (first | apply Kd.R_alloc | apply Kd.R_drewN | apply Kd.R_drew)); exact HO_422003.out) (Kd.R_base ho1) hb)
     have n2_ := Aside0.mk (Kd.S_lower (Kd.S_new' ho0 (Kd.S_lt (by (with_reducible repeat (first | apply Kd.S_alloc | apply Kd.S_drewN | apply Kd.S_drew)); exact HO_422001.out))) (below_size bl_))
     have n3_ := Aside0.mk (Kd.R_lower (Kd.R_new' ho1 (Kd.R_lt (by (with_reducible repeat (first | apply Kd.R_alloc | apply Kd.R_drewN | apply Kd.R_drew)); exact HO_422003.out))) (below_size bl_))
     have n4_ := Aside0.mk (blk_below (g := gb421) (o := .cells #[.int .i64 t412, .slice Ao10 t413.length co10, .string t416, .slice Ao11 t417.length co11, .int .i64 t420] 31 (0, 0)) (bk_ BK421.out) hb)
     have n5_ := Aside0.mk (below_step bl_ hb)
     clear HO_422001
     clear HO_422003
     clear BK421
     clear HB
     have HO_422001 := n0_
     have HO_422003 := n1_
     have HO435 := n2_
     have HO439 := n3_
     have BK421 := n4_
     have HB := n5_
     clear n0_ n1_ n2_ n3_ n4_ n5_
     (try clear hb)
     (try clear hb2)
     (try clear hk)
     (try clear hi)
     (try clear ho0)
     (try clear ho1)
     obtain ⟨Ao39, co39, eo39⟩ := Kd.S_slice HO435.out
     (first | subst eo39 | (injection eo39 with f1_ f2_ f3_; have f4_ := f1_.symm; have f5_ := f3_.symm; clear f1_ f2_ f3_; subst f4_; subst f5_))
     obtain ⟨Ao40, co40, eo40⟩ := Kd.R_slice HO439.out
     (first | subst eo40 | (injection eo40 with f1_ f2_ f3_; have f4_ := f1_.symm; have f5_ := f3_.symm; clear f1_ f2_ f3_; subst f4_; subst f5_))
     refine hK.out _ _ ⟨(blk_cell BK421.out 0).trans rfl, (blk_cell BK421.out 1).trans rfl, (blk_cell BK421.out 2).trans rfl, (blk_cell BK421.out 3).trans rfl, (blk_cell BK421.out 4).trans rfl⟩ (fun hHeld => ?_)
     clear hK K
     refine norm_ (a' := ?_) ?_ ?_
     rotate_left
     ·show Act.put _ (some 28) _ = _
      simp only [Act.put, List.setIfInBounds_toArray, List.set_cons_zero, List.set_cons_succ, i64_w, i32_w]
      rfl
     refine one_ (i := 3) (N := some 29) #[true, true, true, true, false] rfl rfl (by kernel_rfl) (by decide) (fun K hK => ?_)
     refine goes_ Tryz.func6 (by kernel_rfl) rfl #[.agg #[.int .i64 t412, .slice Ao10 t413.length co10, .string t416, .slice Ao11 t417.length co11, .int .i64 t420], .agg #[.int .i64 t432, .slice Ao39 t433.length co39, .string t436, .slice Ao40 t437.length co40, .int .i64 t440]] (by rfl) rfl rfl ga_ ?_
     with_reducible refine (laws_qxLeader.calls kj4 t412 _ _ t413 t416 _ _ t417 t420 t432 _ _ t433 t436 _ _ t437 t440 t441 _ ?side1 ?side2 ?side3 ?side4 ?side5 ?side6 ?side7 ?side8 A36.out).mono ?_
     (case side1 => repeat (first | exact (Kd.S_reads' HO_422001.out).2.2 | (with_reducible refine Kd.C_alloc ?_ _) | (with_reducible refine Kd.C_drewN ?_ _) | (with_reducible refine Kd.C_drew ?_)))
     (case side2 => exact (Kd.S_reads' HO_422001.out).2.1)
     (case side3 => repeat (first | exact (Kd.R_reads' HO_422003.out).2.2 | (with_reducible refine Kd.C_alloc ?_ _) | (with_reducible refine Kd.C_drewN ?_ _) | (with_reducible refine Kd.C_drew ?_)))
     (case side4 => exact (Kd.R_reads' HO_422003.out).2.1)
     (case side5 => repeat (first | exact (Kd.S_reads' HO435.out).2.2 | (with_reducible refine Kd.C_alloc ?_ _) | (with_reducible refine Kd.C_drewN ?_ _) | (with_reducible refine Kd.C_drew ?_)))
     (case side6 => exact (Kd.S_reads' HO435.out).2.1)
     (case side7 => repeat (first | exact (Kd.R_reads' HO439.out).2.2 | (with_reducible refine Kd.C_alloc ?_ _) | (with_reducible refine Kd.C_drewN ?_ _) | (with_reducible refine Kd.C_drew ?_)))
     (case side8 => exact (Kd.R_reads' HO439.out).2.1)
     rintro e w41 ⟨rfl, hb⟩
     refine ⟨_, rfl, ?_⟩
     have n0_ := Aside0.mk (Kd.S_below (by (with_reducible repeat (first | apply Kd.S_alloc | apply Kd.S_drewN | apply Kd.S_drew)); exact HO_422001.out) hb)
     have n1_ := Aside0.mk (Kd.R_below (by (with_reducible repeat (first | apply Kd.R_alloc | apply Kd.R_drewN | apply Kd.R_drew)); exact HO_422003.out) hb)
     have n2_ := Aside0.mk (Kd.S_below (by (with_reducible repeat (first | apply Kd.S_alloc | apply Kd.S_drewN | apply Kd.S_drew)); exact HO435.out) hb)
     have n3_ := Aside0.mk (Kd.R_below (by (with_reducible repeat (first | apply Kd.R_alloc | apply Kd.R_drewN | apply Kd.R_drew)); exact HO439.out) hb)
     have n4_ := Aside0.mk (blk_below (g := gb421) (o := .cells #[.int .i64 t412, .slice Ao10 t413.length co10, .string t416, .slice Ao11 t417.length co11, .int .i64 t420] 31 (0, 0)) (bk_ BK421.out) hb)
     have n5_ := Aside0.mk (below_step bl_ hb)
     clear HO_422001
     clear HO_422003
     clear HO435
     clear HO439
     clear BK421
     clear HB
     have HO_422001 := n0_
     have HO_422003 := n1_
     have HO435 := n2_
     have HO439 := n3_
     have BK421 := n4_
     have HB := n5_
     clear n0_ n1_ n2_ n3_ n4_ n5_
     (try clear hb)
     (try clear hb2)
     (try clear hk)
     (try clear hi)
     refine hK.out _ _ ⟨(blk_cell BK421.out 0).trans rfl, (blk_cell BK421.out 1).trans rfl, (blk_cell BK421.out 2).trans rfl, (blk_cell BK421.out 3).trans rfl, (blk_cell BK421.out 4).trans rfl⟩ (fun hHeld => ?_)
     clear hK K
     refine norm_ (a' := ?_) ?_ ?_
     rotate_left
     ·show Act.put _ (some 29) _ = _
      simp only [Act.put, List.setIfInBounds_toArray, List.set_cons_zero, List.set_cons_succ, i64_w, i32_w]
      rfl
     refine pure_ (i := 4) (N := some 2) (v := ?_) (a' := ?_) #[true, true, true, true, true] rfl rfl (by kernel_rfl) (fun _ _ _ h => h) (Or.inl ⟨by rfl, ?_⟩) ?_ ?_
     rotate_left
     ·intro w'
      go_simp
      with_reducible rfl
     rotate_left
     ·simp only [Act.put, List.setIfInBounds_toArray, List.set_cons_zero, List.set_cons_succ, i64_w, i32_w]
      rfl
     refine done_ (by kernel_rfl) ?_
     try go_wp2
     go_ret
     exact ⟨re_, bl_⟩
    ·replace c34 := Bool.eq_false_iff.mpr c34
     subst c34
     have H1 : ((impl_PackFor.f kj4 t412 t413 t416 t417 t420 0 (⟨#[]⟩ : ByteArray) 0 ([] : List (S67))).bind fun bt442 => ((impl_LeaderOk.f kj4 t412 t413 t416 t417 t420).bind fun t448 => (if t448 = true then (if t420 = 1 then (if bt442.1 = true then (if bt442.2.2.2.1.toList = ([] : List UInt8) then ((impl_FollowerLag.f kj4 t412 t413 t416 t417 t420 0 (⟨#[]⟩ : ByteArray) 0 ([] : List (S67))).bind fun t449 => (some (t449 == 0))) else (some false)) else (some false)) else (some false)) else (some false)))) = some r := by rw [if_neg (show ¬ (false = true) by decide)] at H; exact H
     clear H
     have H := H1
     clear H1
     replace H := Option.bind_eq_some_iff.mp H
     obtain ⟨⟨t442, t443, t444, t445, t446⟩, A420, H⟩ := H
     replace H : ((impl_LeaderOk.f kj4 t412 t413 t416 t417 t420).bind fun t448 => (if t448 = true then (if t420 = 1 then (if t442 = true then (if t445.toList = ([] : List UInt8) then ((impl_FollowerLag.f kj4 t412 t413 t416 t417 t420 0 (⟨#[]⟩ : ByteArray) 0 ([] : List (S67))).bind fun t449 => (some (t449 == 0))) else (some false)) else (some false)) else (some false)) else (some false))) = some r := H
     have A42 := Aside0.mk A420
     clear A420
     replace H := Option.bind_eq_some_iff.mp H
     obtain ⟨t448, A430, H⟩ := H
     replace H : (if t448 = true then (if t420 = 1 then (if t442 = true then (if t445.toList = ([] : List UInt8) then ((impl_FollowerLag.f kj4 t412 t413 t416 t417 t420 0 (⟨#[]⟩ : ByteArray) 0 ([] : List (S67))).bind fun t449 => (some (t449 == 0))) else (some false)) else (some false)) else (some false)) else (some false)) = some r := H
     have A43 := Aside0.mk A430
     clear A430
     by_cases c44 : t448 = true
     ·subst c44
      have H1 : (if t420 = 1 then (if t442 = true then (if t445.toList = ([] : List UInt8) then ((impl_FollowerLag.f kj4 t412 t413 t416 t417 t420 0 (⟨#[]⟩ : ByteArray) 0 ([] : List (S67))).bind fun t449 => (some (t449 == 0))) else (some false)) else (some false)) else (some false)) = some r := by rw [if_pos rfl] at H; exact H
      clear H
      have H := H1
      clear H1
      by_cases c45 : t420 = 1
      ·rw [if_pos c45] at H
       have c45b0 : (t420 == 1) = true := beq_iff_eq.mpr c45
       have c45b1 : (t420 != 1) = false := bne_eq_false_iff_eq.mpr c45
       clear c45
       by_cases c46 : t442 = true
       ·subst c46
        have H1 : (if t445.toList = ([] : List UInt8) then ((impl_FollowerLag.f kj4 t412 t413 t416 t417 t420 0 (⟨#[]⟩ : ByteArray) 0 ([] : List (S67))).bind fun t449 => (some (t449 == 0))) else (some false)) = some r := by rw [if_pos rfl] at H; exact H
        clear H
        have H := H1
        clear H1
        by_cases c47 : t445.toList = ([] : List UInt8)
        ·rw [if_pos c47] at H
         have c47b0 : (t445.toList == ([] : List UInt8)) = true := beq_iff_eq.mpr c47
         have c47b1 : (t445.toList != ([] : List UInt8)) = false := bne_eq_false_iff_eq.mpr c47
         clear c47
         replace H := Option.bind_eq_some_iff.mp H
         obtain ⟨t449, A480, H⟩ := H
         replace H : (some (t449 == 0)) = some r := H
         have A48 := Aside0.mk A480
         clear A480
         obtain rfl := Option.some.inj H
         have hcz49_0 : wc.cell? ⟨gb421, 0, none⟩ = some (.int .i64 t412) := (blk_cell BK421.out 0).trans rfl
         have hcz49_1 : wc.cell? ⟨gb421, 1, none⟩ = some (.slice Ao10 t413.length co10) := (blk_cell BK421.out 1).trans rfl
         have hcz49_2 : wc.cell? ⟨gb421, 2, none⟩ = some (.string t416) := (blk_cell BK421.out 2).trans rfl
         have hcz49_3 : wc.cell? ⟨gb421, 3, none⟩ = some (.slice Ao11 t417.length co11) := (blk_cell BK421.out 3).trans rfl
         have hcz49_4 : wc.cell? ⟨gb421, 4, none⟩ = some (.int .i64 t420) := (blk_cell BK421.out 4).trans rfl
         have hfz49_0 := blk_frozen BK421.out 0
         have hfz49_1 := blk_frozen BK421.out 1
         have hfz49_2 := blk_frozen BK421.out 2
         have hfz49_3 := blk_frozen BK421.out 3
         have hfz49_4 := blk_frozen BK421.out 4
         go_wp2_with (first | ((with_reducible refine gate_callee (f := 8) rfl ?_); refine goesL_ (some 32) rfl rfl Tryz.func8 (by kernel_rfl) rfl #[.agg #[.int .i64 t412, .slice Ao10 t413.length co10, .string t416, .slice Ao11 t417.length co11, .int .i64 t420], .agg #[.int .i64 0, .string (⟨#[]⟩ : ByteArray), .int .i64 0, .slice none 0 0]] rfl ga_ ?_; (refine (impl_PackFor.calls kj4 t412 _ _ t413 t416 _ _ t417 t420 0 (⟨#[]⟩ : ByteArray) 0 _ _ ([] : List (S67)) true t443 t444 t445 t446 _ ?side1 ?side2 ?side3 ?side4 ?side5 ?side6 A42.out).mono ?_); (case side1 => repeat (first | exact (Kd.S_reads' HO_422001.out).2.2 | (with_reducible refine Kd.C_alloc ?_ _) | (with_reducible refine Kd.C_drewN ?_ _) | (with_reducible refine Kd.C_drew ?_))); (case side2 => exact (Kd.S_reads' HO_422001.out).2.1); (case side3 => repeat (first | exact (Kd.R_reads' HO_422003.out).2.2 | (with_reducible refine Kd.C_alloc ?_ _) | (with_reducible refine Kd.C_drewN ?_ _) | (with_reducible refine Kd.C_drew ?_))); (case side4 => exact (Kd.R_reads' HO_422003.out).2.1); (case side5 => exact Kd.C_nil _ _); (case side6 => exact Nat.le_refl _); rintro e w50 ⟨rfl, hb⟩; refine ⟨_, rfl, ?_⟩; have n0_ := Aside0.mk (Kd.S_below (by (with_reducible repeat (first | apply Kd.S_alloc | apply Kd.S_drewN | apply Kd.S_drew)); exact HO_422001.out) hb); have n1_ := Aside0.mk (Kd.R_below (by (with_reducible repeat (first | apply Kd.R_alloc | apply Kd.R_drewN | apply Kd.R_drew)); exact HO_422003.out) hb); have n2_ := Aside0.mk (blk_below (g := gb421) (o := .cells #[.int .i64 t412, .slice Ao10 t413.length co10, .string t416, .slice Ao11 t417.length co11, .int .i64 t420] 31 (0, 0)) (bk_ BK421.out) hb); have n3_ := Aside0.mk (below_step bl_ hb); clear HO_422001; clear HO_422003; clear BK421; clear HB; have HO_422001 := n0_; have HO_422003 := n1_; have BK421 := n2_; have HB := n3_; clear n0_ n1_ n2_ n3_; (try clear hb); (try clear hb2); (try clear hk); (try clear hi)) | ((with_reducible refine gate_dst (N := 5) rfl ?_); refine box_event ?hg (N := 5) ?hd (cs := #[.bool false, .int .i64 0, .int .i64 0, .string (⟨#[]⟩ : ByteArray), .int .i64 0]) (t := 35) ?hr ?_; (case hd => rfl); (case hg => rfl); (case hr => first | (go_simp; done) | (go_simp; rfl)); intro gb447 hg w51 hbox hb; have n0_ := Aside0.mk (Kd.S_below (by (with_reducible repeat (first | apply Kd.S_alloc | apply Kd.S_drewN | apply Kd.S_drew)); exact HO_422001.out) hb); have n1_ := Aside0.mk (Kd.R_below (by (with_reducible repeat (first | apply Kd.R_alloc | apply Kd.R_drewN | apply Kd.R_drew)); exact HO_422003.out) hb); have n2_ := Aside0.mk (blk_below (g := gb421) (o := .cells #[.int .i64 t412, .slice Ao10 t413.length co10, .string t416, .slice Ao11 t417.length co11, .int .i64 t420] 31 (0, 0)) (bk_ BK421.out) hb); have n3_ := Aside0.mk (below_step bl_ hb); have n4_ := Aside0.mk (hbox); have n5_ := Aside0.mk ((by rw [hg]; exact (below_size bl_) : w.heap.size ≤ gb447)); have n6_ := Aside0.mk ((by rw [hg]; exact (below_size bl_) : w.heap.size ≤ gb447)); have n7_ := Aside0.mk ((by rw [hg]; exact Nat.ne_of_lt (blk_lt (g := gb421) (o := .cells #[.int .i64 t412, .slice Ao10 t413.length co10, .string t416, .slice Ao11 t417.length co11, .int .i64 t420] 31 (0, 0)) (bk_ BK421.out)) : gb421 ≠ gb447)); have n8_ := Aside0.mk ((by rw [hg]; exact Nat.ne_of_gt (blk_lt (g := gb421) (o := .cells #[.int .i64 t412, .slice Ao10 t413.length co10, .string t416, .slice Ao11 t417.length co11, .int .i64 t420] 31 (0, 0)) (bk_ BK421.out)) : gb447 ≠ gb421)); clear HO_422001; clear HO_422003; clear BK421; clear HB; have HO_422001 := n0_; have HO_422003 := n1_; have BK421 := n2_; have HB := n3_; have BK447 := n4_; have GW447 := n5_; have GE447 := n6_; have NB421_447 := n7_; have NB447_421 := n8_; clear n0_ n1_ n2_ n3_ n4_ n5_ n6_ n7_ n8_; clear hb hbox hg; have hnb52 := NB447_421.out; have hnc52 := NB421_447.out; have hcz53_0 : w51.cell? ⟨gb447, 0, none⟩ = some (.bool false) := (blk_cell BK447.out 0).trans rfl; have hcz53_1 : w51.cell? ⟨gb447, 1, none⟩ = some (.int .i64 0) := (blk_cell BK447.out 1).trans rfl; have hcz53_2 : w51.cell? ⟨gb447, 2, none⟩ = some (.int .i64 0) := (blk_cell BK447.out 2).trans rfl; have hcz53_3 : w51.cell? ⟨gb447, 3, none⟩ = some (.string (⟨#[]⟩ : ByteArray)) := (blk_cell BK447.out 3).trans rfl; have hcz53_4 : w51.cell? ⟨gb447, 4, none⟩ = some (.int .i64 0) := (blk_cell BK447.out 4).trans rfl; have hfz53_0 := blk_frozen BK447.out 0; have hfz53_1 := blk_frozen BK447.out 1; have hfz53_2 := blk_frozen BK447.out 2; have hfz53_3 := blk_frozen BK447.out 3; have hfz53_4 := blk_frozen BK447.out 4; have hcz54_0 : w51.cell? ⟨gb421, 0, none⟩ = some (.int .i64 t412) := (blk_cell BK421.out 0).trans rfl; have hcz54_1 : w51.cell? ⟨gb421, 1, none⟩ = some (.slice Ao10 t413.length co10) := (blk_cell BK421.out 1).trans rfl; have hcz54_2 : w51.cell? ⟨gb421, 2, none⟩ = some (.string t416) := (blk_cell BK421.out 2).trans rfl; have hcz54_3 : w51.cell? ⟨gb421, 3, none⟩ = some (.slice Ao11 t417.length co11) := (blk_cell BK421.out 3).trans rfl; have hcz54_4 : w51.cell? ⟨gb421, 4, none⟩ = some (.int .i64 t420) := (blk_cell BK421.out 4).trans rfl; have hfz54_0 := blk_frozen BK421.out 0; have hfz54_1 := blk_frozen BK421.out 1; have hfz54_2 := blk_frozen BK421.out 2; have hfz54_3 := blk_frozen BK421.out 3; have hfz54_4 := blk_frozen BK421.out 4) | ((with_reducible refine gate_callee (f := 9) rfl ?_); refine goesL_ (some 34) rfl rfl Tryz.func9 (by kernel_rfl) rfl #[.agg #[.int .i64 t412, .slice Ao10 t413.length co10, .string t416, .slice Ao11 t417.length co11, .int .i64 t420]] rfl ga_ ?_; (with_reducible refine (impl_LeaderOk.calls kj4 t412 _ _ t413 t416 _ _ t417 t420 true _ ?side1 ?side2 ?side3 ?side4 A43.out).mono ?_); (case side1 => refine (Kd.S_reads' (e := 67) (base := w.heap.size) (ok := fun k_ => True) (n := t413.length) (c := co10) ?_).2.2; exact (by (with_reducible repeat (first | apply Kd.S_alloc | apply Kd.S_drewN | apply Kd.S_drew)); exact (Kd.S_mono (Kd.S_far (p := ⟨gb447, 4, none⟩) (Kd.S_far (p := ⟨gb447, 3, none⟩) (Kd.S_far (p := ⟨gb447, 2, none⟩) (Kd.S_far (p := ⟨gb447, 1, none⟩) (Kd.S_far (p := ⟨gb447, 0, none⟩) (Kd.S_types HO_422001.out BK447.out (by decide)) (fun _ hk => hk.2) (.bool true)) (fun _ hk => hk.2) (.int .i64 t443)) (fun _ hk => hk.2) (.int .i64 t444)) (fun _ hk => hk.2) (.string t445)) (fun _ hk => hk.2) (.int .i64 t446)) (fun _ h_ => h_.1)))); (case side2 => exact (Kd.S_reads' HO_422001.out).2.1); (case side3 => refine (Kd.R_reads' (e := 57) (base := w.heap.size) (ok := fun k_ => True) (n := t417.length) (c := co11) ?_).2.2; exact (by (with_reducible repeat (first | apply Kd.R_alloc | apply Kd.R_drewN | apply Kd.R_drew)); exact (Kd.R_mono (Kd.R_far (p := ⟨gb447, 4, none⟩) (Kd.R_far (p := ⟨gb447, 3, none⟩) (Kd.R_far (p := ⟨gb447, 2, none⟩) (Kd.R_far (p := ⟨gb447, 1, none⟩) (Kd.R_far (p := ⟨gb447, 0, none⟩) (Kd.R_types HO_422003.out BK447.out (by decide)) (fun _ hk => hk.2) (.bool true)) (fun _ hk => hk.2) (.int .i64 t443)) (fun _ hk => hk.2) (.int .i64 t444)) (fun _ hk => hk.2) (.string t445)) (fun _ hk => hk.2) (.int .i64 t446)) (fun _ h_ => h_.1)))); (case side4 => exact (Kd.R_reads' HO_422003.out).2.1); rintro e w55 ⟨rfl, hb⟩; refine ⟨_, rfl, ?_⟩; have n0_ := Aside0.mk (Kd.S_below (by (with_reducible repeat (first | apply Kd.S_alloc | apply Kd.S_drewN | apply Kd.S_drew)); exact (Kd.S_mono (Kd.S_far (p := ⟨gb447, 4, none⟩) (Kd.S_far (p := ⟨gb447, 3, none⟩) (Kd.S_far (p := ⟨gb447, 2, none⟩) (Kd.S_far (p := ⟨gb447, 1, none⟩) (Kd.S_far (p := ⟨gb447, 0, none⟩) (Kd.S_types HO_422001.out BK447.out (by decide)) (fun _ hk => hk.2) (.bool true)) (fun _ hk => hk.2) (.int .i64 t443)) (fun _ hk => hk.2) (.int .i64 t444)) (fun _ hk => hk.2) (.string t445)) (fun _ hk => hk.2) (.int .i64 t446)) (fun _ h_ => h_.1))) hb); have n1_ := Aside0.mk (Kd.R_below (by (with_reducible repeat (first | apply Kd.R_alloc | apply Kd.R_drewN | apply Kd.R_drew)); exact (Kd.R_mono (Kd.R_far (p := ⟨gb447, 4, none⟩) (Kd.R_far (p := ⟨gb447, 3, none⟩) (Kd.R_far (p := ⟨gb447, 2, none⟩) (Kd.R_far (p := ⟨gb447, 1, none⟩) (Kd.R_far (p := ⟨gb447, 0, none⟩) (Kd.R_types HO_422003.out BK447.out (by decide)) (fun _ hk => hk.2) (.bool true)) (fun _ hk => hk.2) (.int .i64 t443)) (fun _ hk => hk.2) (.int .i64 t444)) (fun _ hk => hk.2) (.string t445)) (fun _ hk => hk.2) (.int .i64 t446)) (fun _ h_ => h_.1))) hb); have n2_ := Aside0.mk (blk_below (g := gb421) (o := .cells #[.int .i64 t412, .slice Ao10 t413.length co10, .string t416, .slice Ao11 t417.length co11, .int .i64 t420] 31 (0, 0)) (bf_ BK421.out) hb); have n3_ := Aside0.mk (blk_below (g := gb447) (o := .cells #[.bool true, .int .i64 t443, .int .i64 t444, .string t445, .int .i64 t446] 35 (0, 0)) (by (with_reducible repeat (first | refine blk_drewN ?_ _ | refine blk_drew ?_ | refine blk_alloc ?_ _)); refine blk_put (cs := #[.bool true, .int .i64 t443, .int .i64 t444, .string t445, .int .i64 0]) ?_ 4 _ rfl; (with_reducible repeat (first | refine blk_drewN ?_ _ | refine blk_drew ?_ | refine blk_alloc ?_ _)); refine blk_put (cs := #[.bool true, .int .i64 t443, .int .i64 t444, .string (⟨#[]⟩ : ByteArray), .int .i64 0]) ?_ 3 _ rfl; (with_reducible repeat (first | refine blk_drewN ?_ _ | refine blk_drew ?_ | refine blk_alloc ?_ _)); refine blk_put (cs := #[.bool true, .int .i64 t443, .int .i64 0, .string (⟨#[]⟩ : ByteArray), .int .i64 0]) ?_ 2 _ rfl; (with_reducible repeat (first | refine blk_drewN ?_ _ | refine blk_drew ?_ | refine blk_alloc ?_ _)); refine blk_put (cs := #[.bool true, .int .i64 0, .int .i64 0, .string (⟨#[]⟩ : ByteArray), .int .i64 0]) ?_ 1 _ rfl; (with_reducible repeat (first | refine blk_drewN ?_ _ | refine blk_drew ?_ | refine blk_alloc ?_ _)); refine blk_put (cs := #[.bool false, .int .i64 0, .int .i64 0, .string (⟨#[]⟩ : ByteArray), .int .i64 0]) ?_ 0 _ rfl; (with_reducible repeat (first | refine blk_drewN ?_ _ | refine blk_drew ?_ | refine blk_alloc ?_ _)); exact BK447.out) hb); have n4_ := Aside0.mk (below_step bl_ hb); clear HO_422001; clear HO_422003; clear BK421; clear BK447; clear HB; have HO_422001 := n0_; have HO_422003 := n1_; have BK421 := n2_; have BK447 := n3_; have HB := n4_; clear n0_ n1_ n2_ n3_ n4_; (try clear hb); (try clear hb2); (try clear hk); (try clear hi); have hcz56_0 : w55.cell? ⟨gb421, 0, none⟩ = some (.int .i64 t412) := (blk_cell BK421.out 0).trans rfl; have hcz56_1 : w55.cell? ⟨gb421, 1, none⟩ = some (.slice Ao10 t413.length co10) := (blk_cell BK421.out 1).trans rfl; have hcz56_2 : w55.cell? ⟨gb421, 2, none⟩ = some (.string t416) := (blk_cell BK421.out 2).trans rfl; have hcz56_3 : w55.cell? ⟨gb421, 3, none⟩ = some (.slice Ao11 t417.length co11) := (blk_cell BK421.out 3).trans rfl; have hcz56_4 : w55.cell? ⟨gb421, 4, none⟩ = some (.int .i64 t420) := (blk_cell BK421.out 4).trans rfl; have hfz56_0 := blk_frozen BK421.out 0; have hfz56_1 := blk_frozen BK421.out 1; have hfz56_2 := blk_frozen BK421.out 2; have hfz56_3 := blk_frozen BK421.out 3; have hfz56_4 := blk_frozen BK421.out 4; have hcz57_0 : w55.cell? ⟨gb447, 0, none⟩ = some (.bool true) := (blk_cell BK447.out 0).trans rfl; have hcz57_1 : w55.cell? ⟨gb447, 1, none⟩ = some (.int .i64 t443) := (blk_cell BK447.out 1).trans rfl; have hcz57_2 : w55.cell? ⟨gb447, 2, none⟩ = some (.int .i64 t444) := (blk_cell BK447.out 2).trans rfl; have hcz57_3 : w55.cell? ⟨gb447, 3, none⟩ = some (.string t445) := (blk_cell BK447.out 3).trans rfl; have hcz57_4 : w55.cell? ⟨gb447, 4, none⟩ = some (.int .i64 t446) := (blk_cell BK447.out 4).trans rfl; have hfz57_0 := blk_frozen BK447.out 0; have hfz57_1 := blk_frozen BK447.out 1; have hfz57_2 := blk_frozen BK447.out 2; have hfz57_3 := blk_frozen BK447.out 3; have hfz57_4 := blk_frozen BK447.out 4) | (go_at_call 10; (refine (impl_FollowerLag.calls kj4 t412 _ _ t413 t416 _ _ t417 t420 0 (⟨#[]⟩ : ByteArray) 0 _ _ ([] : List (S67)) t449 _ ?side1 ?side2 ?side3 ?side4 ?side5 ?side6 A48.out).mono ?_); (case side1 => repeat (first | exact (Kd.S_reads' HO_422001.out).2.2 | (with_reducible refine Kd.C_alloc ?_ _) | (with_reducible refine Kd.C_drewN ?_ _) | (with_reducible refine Kd.C_drew ?_))); (case side2 => exact (Kd.S_reads' HO_422001.out).2.1); (case side3 => repeat (first | exact (Kd.R_reads' HO_422003.out).2.2 | (with_reducible refine Kd.C_alloc ?_ _) | (with_reducible refine Kd.C_drewN ?_ _) | (with_reducible refine Kd.C_drew ?_))); (case side4 => exact (Kd.R_reads' HO_422003.out).2.1); (case side5 => exact Kd.C_nil _ _); (case side6 => exact Nat.le_refl _); rintro e w58 ⟨rfl, hb⟩; have n0_ := Aside0.mk (Kd.S_below (by (with_reducible repeat (first | apply Kd.S_alloc | apply Kd.S_drewN | apply Kd.S_drew)); exact HO_422001.out) hb); have n1_ := Aside0.mk (Kd.R_below (by (with_reducible repeat (first | apply Kd.R_alloc | apply Kd.R_drewN | apply Kd.R_drew)); exact HO_422003.out) hb); have n2_ := Aside0.mk (blk_below (g := gb421) (o := .cells #[.int .i64 t412, .slice Ao10 t413.length co10, .string t416, .slice Ao11 t417.length co11, .int .i64 t420] 31 (0, 0)) (bk_ BK421.out) hb); have n3_ := Aside0.mk (blk_below (g := gb447) (o := .cells #[.bool true, .int .i64 t443, .int .i64 t444, .string t445, .int .i64 t446] 35 (0, 0)) (bk_ BK447.out) hb); have n4_ := Aside0.mk (below_step bl_ hb); clear HO_422001; clear HO_422003; clear BK421; clear BK447; clear HB; have HO_422001 := n0_; have HO_422003 := n1_; have BK421 := n2_; have BK447 := n3_; have HB := n4_; clear n0_ n1_ n2_ n3_ n4_; (try clear hb); (try clear hb2); (try clear hk); (try clear hi)))
         go_ret
         exact ⟨re_, bl_⟩
        ·rw [if_neg c47] at H
         have c47b0 : (t445.toList == ([] : List UInt8)) = false := beq_eq_false_iff_ne.mpr c47
         have c47b1 : (t445.toList != ([] : List UInt8)) = true := bne_iff_ne.mpr c47
         obtain rfl := Option.some.inj H
         have hcz59_0 : wc.cell? ⟨gb421, 0, none⟩ = some (.int .i64 t412) := (blk_cell BK421.out 0).trans rfl
         have hcz59_1 : wc.cell? ⟨gb421, 1, none⟩ = some (.slice Ao10 t413.length co10) := (blk_cell BK421.out 1).trans rfl
         have hcz59_2 : wc.cell? ⟨gb421, 2, none⟩ = some (.string t416) := (blk_cell BK421.out 2).trans rfl
         have hcz59_3 : wc.cell? ⟨gb421, 3, none⟩ = some (.slice Ao11 t417.length co11) := (blk_cell BK421.out 3).trans rfl
         have hcz59_4 : wc.cell? ⟨gb421, 4, none⟩ = some (.int .i64 t420) := (blk_cell BK421.out 4).trans rfl
         have hfz59_0 := blk_frozen BK421.out 0
         have hfz59_1 := blk_frozen BK421.out 1
         have hfz59_2 := blk_frozen BK421.out 2
         have hfz59_3 := blk_frozen BK421.out 3
         have hfz59_4 := blk_frozen BK421.out 4
         go_wp2_with (first | ((with_reducible refine gate_callee (f := 8) rfl ?_); refine goesL_ (some 32) rfl rfl Tryz.func8 (by kernel_rfl) rfl #[.agg #[.int .i64 t412, .slice Ao10 t413.length co10, .string t416, .slice Ao11 t417.length co11, .int .i64 t420], .agg #[.int .i64 0, .string (⟨#[]⟩ : ByteArray), .int .i64 0, .slice none 0 0]] rfl ga_ ?_; (refine (impl_PackFor.calls kj4 t412 _ _ t413 t416 _ _ t417 t420 0 (⟨#[]⟩ : ByteArray) 0 _ _ ([] : List (S67)) true t443 t444 t445 t446 _ ?side1 ?side2 ?side3 ?side4 ?side5 ?side6 A42.out).mono ?_); (case side1 => repeat (first | exact (Kd.S_reads' HO_422001.out).2.2 | (with_reducible refine Kd.C_alloc ?_ _) | (with_reducible refine Kd.C_drewN ?_ _) | (with_reducible refine Kd.C_drew ?_))); (case side2 => exact (Kd.S_reads' HO_422001.out).2.1); (case side3 => repeat (first | exact (Kd.R_reads' HO_422003.out).2.2 | (with_reducible refine Kd.C_alloc ?_ _) | (with_reducible refine Kd.C_drewN ?_ _) | (with_reducible refine Kd.C_drew ?_))); (case side4 => exact (Kd.R_reads' HO_422003.out).2.1); (case side5 => exact Kd.C_nil _ _); (case side6 => exact Nat.le_refl _); rintro e w60 ⟨rfl, hb⟩; refine ⟨_, rfl, ?_⟩; have n0_ := Aside0.mk (Kd.S_below (by (with_reducible repeat (first | apply Kd.S_alloc | apply Kd.S_drewN | apply Kd.S_drew)); exact HO_422001.out) hb); have n1_ := Aside0.mk (Kd.R_below (by (with_reducible repeat (first | apply Kd.R_alloc | apply Kd.R_drewN | apply Kd.R_drew)); exact HO_422003.out) hb); have n2_ := Aside0.mk (blk_below (g := gb421) (o := .cells #[.int .i64 t412, .slice Ao10 t413.length co10, .string t416, .slice Ao11 t417.length co11, .int .i64 t420] 31 (0, 0)) (bk_ BK421.out) hb); have n3_ := Aside0.mk (below_step bl_ hb); clear HO_422001; clear HO_422003; clear BK421; clear HB; have HO_422001 := n0_; have HO_422003 := n1_; have BK421 := n2_; have HB := n3_; clear n0_ n1_ n2_ n3_; (try clear hb); (try clear hb2); (try clear hk); (try clear hi)) | ((with_reducible refine gate_dst (N := 5) rfl ?_); refine box_event ?hg (N := 5) ?hd (cs := #[.bool false, .int .i64 0, .int .i64 0, .string (⟨#[]⟩ : ByteArray), .int .i64 0]) (t := 35) ?hr ?_; (case hd => rfl); (case hg => rfl); (case hr => first | (go_simp; done) | (go_simp; rfl)); intro gb447 hg w61 hbox hb; have n0_ := Aside0.mk (Kd.S_below (by (with_reducible repeat (first | apply Kd.S_alloc | apply Kd.S_drewN | apply Kd.S_drew)); exact HO_422001.out) hb); have n1_ := Aside0.mk (Kd.R_below (by (with_reducible repeat (first | apply Kd.R_alloc | apply Kd.R_drewN | apply Kd.R_drew)); exact HO_422003.out) hb); have n2_ := Aside0.mk (blk_below (g := gb421) (o := .cells #[.int .i64 t412, .slice Ao10 t413.length co10, .string t416, .slice Ao11 t417.length co11, .int .i64 t420] 31 (0, 0)) (bk_ BK421.out) hb); have n3_ := Aside0.mk (below_step bl_ hb); have n4_ := Aside0.mk (hbox); have n5_ := Aside0.mk ((by rw [hg]; exact (below_size bl_) : w.heap.size ≤ gb447)); have n6_ := Aside0.mk ((by rw [hg]; exact (below_size bl_) : w.heap.size ≤ gb447)); have n7_ := Aside0.mk ((by rw [hg]; exact Nat.ne_of_lt (blk_lt (g := gb421) (o := .cells #[.int .i64 t412, .slice Ao10 t413.length co10, .string t416, .slice Ao11 t417.length co11, .int .i64 t420] 31 (0, 0)) (bk_ BK421.out)) : gb421 ≠ gb447)); have n8_ := Aside0.mk ((by rw [hg]; exact Nat.ne_of_gt (blk_lt (g := gb421) (o := .cells #[.int .i64 t412, .slice Ao10 t413.length co10, .string t416, .slice Ao11 t417.length co11, .int .i64 t420] 31 (0, 0)) (bk_ BK421.out)) : gb447 ≠ gb421)); clear HO_422001; clear HO_422003; clear BK421; clear HB; have HO_422001 := n0_; have HO_422003 := n1_; have BK421 := n2_; have HB := n3_; have BK447 := n4_; have GW447 := n5_; have GE447 := n6_; have NB421_447 := n7_; have NB447_421 := n8_; clear n0_ n1_ n2_ n3_ n4_ n5_ n6_ n7_ n8_; clear hb hbox hg; have hnb62 := NB447_421.out; have hnc62 := NB421_447.out; have hcz63_0 : w61.cell? ⟨gb447, 0, none⟩ = some (.bool false) := (blk_cell BK447.out 0).trans rfl; have hcz63_1 : w61.cell? ⟨gb447, 1, none⟩ = some (.int .i64 0) := (blk_cell BK447.out 1).trans rfl; have hcz63_2 : w61.cell? ⟨gb447, 2, none⟩ = some (.int .i64 0) := (blk_cell BK447.out 2).trans rfl; have hcz63_3 : w61.cell? ⟨gb447, 3, none⟩ = some (.string (⟨#[]⟩ : ByteArray)) := (blk_cell BK447.out 3).trans rfl; have hcz63_4 : w61.cell? ⟨gb447, 4, none⟩ = some (.int .i64 0) := (blk_cell BK447.out 4).trans rfl; have hfz63_0 := blk_frozen BK447.out 0; have hfz63_1 := blk_frozen BK447.out 1; have hfz63_2 := blk_frozen BK447.out 2; have hfz63_3 := blk_frozen BK447.out 3; have hfz63_4 := blk_frozen BK447.out 4; have hcz64_0 : w61.cell? ⟨gb421, 0, none⟩ = some (.int .i64 t412) := (blk_cell BK421.out 0).trans rfl; have hcz64_1 : w61.cell? ⟨gb421, 1, none⟩ = some (.slice Ao10 t413.length co10) := (blk_cell BK421.out 1).trans rfl; have hcz64_2 : w61.cell? ⟨gb421, 2, none⟩ = some (.string t416) := (blk_cell BK421.out 2).trans rfl; have hcz64_3 : w61.cell? ⟨gb421, 3, none⟩ = some (.slice Ao11 t417.length co11) := (blk_cell BK421.out 3).trans rfl; have hcz64_4 : w61.cell? ⟨gb421, 4, none⟩ = some (.int .i64 t420) := (blk_cell BK421.out 4).trans rfl; have hfz64_0 := blk_frozen BK421.out 0; have hfz64_1 := blk_frozen BK421.out 1; have hfz64_2 := blk_frozen BK421.out 2; have hfz64_3 := blk_frozen BK421.out 3; have hfz64_4 := blk_frozen BK421.out 4) | ((with_reducible refine gate_callee (f := 9) rfl ?_); refine goesL_ (some 34) rfl rfl Tryz.func9 (by kernel_rfl) rfl #[.agg #[.int .i64 t412, .slice Ao10 t413.length co10, .string t416, .slice Ao11 t417.length co11, .int .i64 t420]] rfl ga_ ?_; (with_reducible refine (impl_LeaderOk.calls kj4 t412 _ _ t413 t416 _ _ t417 t420 true _ ?side1 ?side2 ?side3 ?side4 A43.out).mono ?_); (case side1 => refine (Kd.S_reads' (e := 67) (base := w.heap.size) (ok := fun k_ => True) (n := t413.length) (c := co10) ?_).2.2; exact (by (with_reducible repeat (first | apply Kd.S_alloc | apply Kd.S_drewN | apply Kd.S_drew)); exact (Kd.S_mono (Kd.S_far (p := ⟨gb447, 4, none⟩) (Kd.S_far (p := ⟨gb447, 3, none⟩) (Kd.S_far (p := ⟨gb447, 2, none⟩) (Kd.S_far (p := ⟨gb447, 1, none⟩) (Kd.S_far (p := ⟨gb447, 0, none⟩) (Kd.S_types HO_422001.out BK447.out (by decide)) (fun _ hk => hk.2) (.bool true)) (fun _ hk => hk.2) (.int .i64 t443)) (fun _ hk => hk.2) (.int .i64 t444)) (fun _ hk => hk.2) (.string t445)) (fun _ hk => hk.2) (.int .i64 t446)) (fun _ h_ => h_.1)))); (case side2 => exact (Kd.S_reads' HO_422001.out).2.1); (case side3 => refine (Kd.R_reads' (e := 57) (base := w.heap.size) (ok := fun k_ => True) (n := t417.length) (c := co11) ?_).2.2; exact (by (with_reducible repeat (first | apply Kd.R_alloc | apply Kd.R_drewN | apply Kd.R_drew)); exact (Kd.R_mono (Kd.R_far (p := ⟨gb447, 4, none⟩) (Kd.R_far (p := ⟨gb447, 3, none⟩) (Kd.R_far (p := ⟨gb447, 2, none⟩) (Kd.R_far (p := ⟨gb447, 1, none⟩) (Kd.R_far (p := ⟨gb447, 0, none⟩) (Kd.R_types HO_422003.out BK447.out (by decide)) (fun _ hk => hk.2) (.bool true)) (fun _ hk => hk.2) (.int .i64 t443)) (fun _ hk => hk.2) (.int .i64 t444)) (fun _ hk => hk.2) (.string t445)) (fun _ hk => hk.2) (.int .i64 t446)) (fun _ h_ => h_.1)))); (case side4 => exact (Kd.R_reads' HO_422003.out).2.1); rintro e w65 ⟨rfl, hb⟩; refine ⟨_, rfl, ?_⟩; have n0_ := Aside0.mk (Kd.S_below (by (with_reducible repeat (first | apply Kd.S_alloc | apply Kd.S_drewN | apply Kd.S_drew)); exact (Kd.S_mono (Kd.S_far (p := ⟨gb447, 4, none⟩) (Kd.S_far (p := ⟨gb447, 3, none⟩) (Kd.S_far (p := ⟨gb447, 2, none⟩) (Kd.S_far (p := ⟨gb447, 1, none⟩) (Kd.S_far (p := ⟨gb447, 0, none⟩) (Kd.S_types HO_422001.out BK447.out (by decide)) (fun _ hk => hk.2) (.bool true)) (fun _ hk => hk.2) (.int .i64 t443)) (fun _ hk => hk.2) (.int .i64 t444)) (fun _ hk => hk.2) (.string t445)) (fun _ hk => hk.2) (.int .i64 t446)) (fun _ h_ => h_.1))) hb); have n1_ := Aside0.mk (Kd.R_below (by (with_reducible repeat (first | apply Kd.R_alloc | apply Kd.R_drewN | apply Kd.R_drew)); exact (Kd.R_mono (Kd.R_far (p := ⟨gb447, 4, none⟩) (Kd.R_far (p := ⟨gb447, 3, none⟩) (Kd.R_far (p := ⟨gb447, 2, none⟩) (Kd.R_far (p := ⟨gb447, 1, none⟩) (Kd.R_far (p := ⟨gb447, 0, none⟩) (Kd.R_types HO_422003.out BK447.out (by decide)) (fun _ hk => hk.2) (.bool true)) (fun _ hk => hk.2) (.int .i64 t443)) (fun _ hk => hk.2) (.int .i64 t444)) (fun _ hk => hk.2) (.string t445)) (fun _ hk => hk.2) (.int .i64 t446)) (fun _ h_ => h_.1))) hb); have n2_ := Aside0.mk (blk_below (g := gb421) (o := .cells #[.int .i64 t412, .slice Ao10 t413.length co10, .string t416, .slice Ao11 t417.length co11, .int .i64 t420] 31 (0, 0)) (bf_ BK421.out) hb); have n3_ := Aside0.mk (blk_below (g := gb447) (o := .cells #[.bool true, .int .i64 t443, .int .i64 t444, .string t445, .int .i64 t446] 35 (0, 0)) (by (with_reducible repeat (first | refine blk_drewN ?_ _ | refine blk_drew ?_ | refine blk_alloc ?_ _)); refine blk_put (cs := #[.bool true, .int .i64 t443, .int .i64 t444, .string t445, .int .i64 0]) ?_ 4 _ rfl; (with_reducible repeat (first | refine blk_drewN ?_ _ | refine blk_drew ?_ | refine blk_alloc ?_ _)); refine blk_put (cs := #[.bool true, .int .i64 t443, .int .i64 t444, .string (⟨#[]⟩ : ByteArray), .int .i64 0]) ?_ 3 _ rfl; (with_reducible repeat (first | refine blk_drewN ?_ _ | refine blk_drew ?_ | refine blk_alloc ?_ _)); refine blk_put (cs := #[.bool true, .int .i64 t443, .int .i64 0, .string (⟨#[]⟩ : ByteArray), .int .i64 0]) ?_ 2 _ rfl; (with_reducible repeat (first | refine blk_drewN ?_ _ | refine blk_drew ?_ | refine blk_alloc ?_ _)); refine blk_put (cs := #[.bool true, .int .i64 0, .int .i64 0, .string (⟨#[]⟩ : ByteArray), .int .i64 0]) ?_ 1 _ rfl; (with_reducible repeat (first | refine blk_drewN ?_ _ | refine blk_drew ?_ | refine blk_alloc ?_ _)); refine blk_put (cs := #[.bool false, .int .i64 0, .int .i64 0, .string (⟨#[]⟩ : ByteArray), .int .i64 0]) ?_ 0 _ rfl; (with_reducible repeat (first | refine blk_drewN ?_ _ | refine blk_drew ?_ | refine blk_alloc ?_ _)); exact BK447.out) hb); have n4_ := Aside0.mk (below_step bl_ hb); clear HO_422001; clear HO_422003; clear BK421; clear BK447; clear HB; have HO_422001 := n0_; have HO_422003 := n1_; have BK421 := n2_; have BK447 := n3_; have HB := n4_; clear n0_ n1_ n2_ n3_ n4_; (try clear hb); (try clear hb2); (try clear hk); (try clear hi); have hcz66_0 : w65.cell? ⟨gb421, 0, none⟩ = some (.int .i64 t412) := (blk_cell BK421.out 0).trans rfl; have hcz66_1 : w65.cell? ⟨gb421, 1, none⟩ = some (.slice Ao10 t413.length co10) := (blk_cell BK421.out 1).trans rfl; have hcz66_2 : w65.cell? ⟨gb421, 2, none⟩ = some (.string t416) := (blk_cell BK421.out 2).trans rfl; have hcz66_3 : w65.cell? ⟨gb421, 3, none⟩ = some (.slice Ao11 t417.length co11) := (blk_cell BK421.out 3).trans rfl; have hcz66_4 : w65.cell? ⟨gb421, 4, none⟩ = some (.int .i64 t420) := (blk_cell BK421.out 4).trans rfl; have hfz66_0 := blk_frozen BK421.out 0; have hfz66_1 := blk_frozen BK421.out 1; have hfz66_2 := blk_frozen BK421.out 2; have hfz66_3 := blk_frozen BK421.out 3; have hfz66_4 := blk_frozen BK421.out 4; have hcz67_0 : w65.cell? ⟨gb447, 0, none⟩ = some (.bool true) := (blk_cell BK447.out 0).trans rfl; have hcz67_1 : w65.cell? ⟨gb447, 1, none⟩ = some (.int .i64 t443) := (blk_cell BK447.out 1).trans rfl; have hcz67_2 : w65.cell? ⟨gb447, 2, none⟩ = some (.int .i64 t444) := (blk_cell BK447.out 2).trans rfl; have hcz67_3 : w65.cell? ⟨gb447, 3, none⟩ = some (.string t445) := (blk_cell BK447.out 3).trans rfl; have hcz67_4 : w65.cell? ⟨gb447, 4, none⟩ = some (.int .i64 t446) := (blk_cell BK447.out 4).trans rfl; have hfz67_0 := blk_frozen BK447.out 0; have hfz67_1 := blk_frozen BK447.out 1; have hfz67_2 := blk_frozen BK447.out 2; have hfz67_3 := blk_frozen BK447.out 3; have hfz67_4 := blk_frozen BK447.out 4))
         go_ret
         exact ⟨re_, bl_⟩
       ·replace c46 := Bool.eq_false_iff.mpr c46
        subst c46
        have H1 : (some false) = some r := by rw [if_neg (show ¬ (false = true) by decide)] at H; exact H
        clear H
        have H := H1
        clear H1
        obtain rfl := Option.some.inj H
        have hcz68_0 : wc.cell? ⟨gb421, 0, none⟩ = some (.int .i64 t412) := (blk_cell BK421.out 0).trans rfl
        have hcz68_1 : wc.cell? ⟨gb421, 1, none⟩ = some (.slice Ao10 t413.length co10) := (blk_cell BK421.out 1).trans rfl
        have hcz68_2 : wc.cell? ⟨gb421, 2, none⟩ = some (.string t416) := (blk_cell BK421.out 2).trans rfl
        have hcz68_3 : wc.cell? ⟨gb421, 3, none⟩ = some (.slice Ao11 t417.length co11) := (blk_cell BK421.out 3).trans rfl
        have hcz68_4 : wc.cell? ⟨gb421, 4, none⟩ = some (.int .i64 t420) := (blk_cell BK421.out 4).trans rfl
        have hfz68_0 := blk_frozen BK421.out 0
        have hfz68_1 := blk_frozen BK421.out 1
        have hfz68_2 := blk_frozen BK421.out 2
        have hfz68_3 := blk_frozen BK421.out 3
        have hfz68_4 := blk_frozen BK421.out 4
        go_wp2_with (first | ((with_reducible refine gate_callee (f := 8) rfl ?_); refine goesL_ (some 32) rfl rfl Tryz.func8 (by kernel_rfl) rfl #[.agg #[.int .i64 t412, .slice Ao10 t413.length co10, .string t416, .slice Ao11 t417.length co11, .int .i64 t420], .agg #[.int .i64 0, .string (⟨#[]⟩ : ByteArray), .int .i64 0, .slice none 0 0]] rfl ga_ ?_; (refine (impl_PackFor.calls kj4 t412 _ _ t413 t416 _ _ t417 t420 0 (⟨#[]⟩ : ByteArray) 0 _ _ ([] : List (S67)) false t443 t444 t445 t446 _ ?side1 ?side2 ?side3 ?side4 ?side5 ?side6 A42.out).mono ?_); (case side1 => repeat (first | exact (Kd.S_reads' HO_422001.out).2.2 | (with_reducible refine Kd.C_alloc ?_ _) | (with_reducible refine Kd.C_drewN ?_ _) | (with_reducible refine Kd.C_drew ?_))); (case side2 => exact (Kd.S_reads' HO_422001.out).2.1); (case side3 => repeat (first | exact (Kd.R_reads' HO_422003.out).2.2 | (with_reducible refine Kd.C_alloc ?_ _) | (with_reducible refine Kd.C_drewN ?_ _) | (with_reducible refine Kd.C_drew ?_))); (case side4 => exact (Kd.R_reads' HO_422003.out).2.1); (case side5 => exact Kd.C_nil _ _); (case side6 => exact Nat.le_refl _); rintro e w69 ⟨rfl, hb⟩; refine ⟨_, rfl, ?_⟩; have n0_ := Aside0.mk (Kd.S_below (by (with_reducible repeat (first | apply Kd.S_alloc | apply Kd.S_drewN | apply Kd.S_drew)); exact HO_422001.out) hb); have n1_ := Aside0.mk (Kd.R_below (by (with_reducible repeat (first | apply Kd.R_alloc | apply Kd.R_drewN | apply Kd.R_drew)); exact HO_422003.out) hb); have n2_ := Aside0.mk (blk_below (g := gb421) (o := .cells #[.int .i64 t412, .slice Ao10 t413.length co10, .string t416, .slice Ao11 t417.length co11, .int .i64 t420] 31 (0, 0)) (bk_ BK421.out) hb); have n3_ := Aside0.mk (below_step bl_ hb); clear HO_422001; clear HO_422003; clear BK421; clear HB; have HO_422001 := n0_; have HO_422003 := n1_; have BK421 := n2_; have HB := n3_; clear n0_ n1_ n2_ n3_; (try clear hb); (try clear hb2); (try clear hk); (try clear hi)) | ((with_reducible refine gate_dst (N := 5) rfl ?_); refine box_event ?hg (N := 5) ?hd (cs := #[.bool false, .int .i64 0, .int .i64 0, .string (⟨#[]⟩ : ByteArray), .int .i64 0]) (t := 35) ?hr ?_; (case hd => rfl); (case hg => rfl); (case hr => first | (go_simp; done) | (go_simp; rfl)); intro gb447 hg w70 hbox hb; have n0_ := Aside0.mk (Kd.S_below (by (with_reducible repeat (first | apply Kd.S_alloc | apply Kd.S_drewN | apply Kd.S_drew)); exact HO_422001.out) hb); have n1_ := Aside0.mk (Kd.R_below (by (with_reducible repeat (first | apply Kd.R_alloc | apply Kd.R_drewN | apply Kd.R_drew)); exact HO_422003.out) hb); have n2_ := Aside0.mk (blk_below (g := gb421) (o := .cells #[.int .i64 t412, .slice Ao10 t413.length co10, .string t416, .slice Ao11 t417.length co11, .int .i64 t420] 31 (0, 0)) (bk_ BK421.out) hb); have n3_ := Aside0.mk (below_step bl_ hb); have n4_ := Aside0.mk (hbox); have n5_ := Aside0.mk ((by rw [hg]; exact (below_size bl_) : w.heap.size ≤ gb447)); have n6_ := Aside0.mk ((by rw [hg]; exact (below_size bl_) : w.heap.size ≤ gb447)); have n7_ := Aside0.mk ((by rw [hg]; exact Nat.ne_of_lt (blk_lt (g := gb421) (o := .cells #[.int .i64 t412, .slice Ao10 t413.length co10, .string t416, .slice Ao11 t417.length co11, .int .i64 t420] 31 (0, 0)) (bk_ BK421.out)) : gb421 ≠ gb447)); have n8_ := Aside0.mk ((by rw [hg]; exact Nat.ne_of_gt (blk_lt (g := gb421) (o := .cells #[.int .i64 t412, .slice Ao10 t413.length co10, .string t416, .slice Ao11 t417.length co11, .int .i64 t420] 31 (0, 0)) (bk_ BK421.out)) : gb447 ≠ gb421)); clear HO_422001; clear HO_422003; clear BK421; clear HB; have HO_422001 := n0_; have HO_422003 := n1_; have BK421 := n2_; have HB := n3_; have BK447 := n4_; have GW447 := n5_; have GE447 := n6_; have NB421_447 := n7_; have NB447_421 := n8_; clear n0_ n1_ n2_ n3_ n4_ n5_ n6_ n7_ n8_; clear hb hbox hg; have hnb71 := NB447_421.out; have hnc71 := NB421_447.out; have hcz72_0 : w70.cell? ⟨gb447, 0, none⟩ = some (.bool false) := (blk_cell BK447.out 0).trans rfl; have hcz72_1 : w70.cell? ⟨gb447, 1, none⟩ = some (.int .i64 0) := (blk_cell BK447.out 1).trans rfl; have hcz72_2 : w70.cell? ⟨gb447, 2, none⟩ = some (.int .i64 0) := (blk_cell BK447.out 2).trans rfl; have hcz72_3 : w70.cell? ⟨gb447, 3, none⟩ = some (.string (⟨#[]⟩ : ByteArray)) := (blk_cell BK447.out 3).trans rfl; have hcz72_4 : w70.cell? ⟨gb447, 4, none⟩ = some (.int .i64 0) := (blk_cell BK447.out 4).trans rfl; have hfz72_0 := blk_frozen BK447.out 0; have hfz72_1 := blk_frozen BK447.out 1; have hfz72_2 := blk_frozen BK447.out 2; have hfz72_3 := blk_frozen BK447.out 3; have hfz72_4 := blk_frozen BK447.out 4; have hcz73_0 : w70.cell? ⟨gb421, 0, none⟩ = some (.int .i64 t412) := (blk_cell BK421.out 0).trans rfl; have hcz73_1 : w70.cell? ⟨gb421, 1, none⟩ = some (.slice Ao10 t413.length co10) := (blk_cell BK421.out 1).trans rfl; have hcz73_2 : w70.cell? ⟨gb421, 2, none⟩ = some (.string t416) := (blk_cell BK421.out 2).trans rfl; have hcz73_3 : w70.cell? ⟨gb421, 3, none⟩ = some (.slice Ao11 t417.length co11) := (blk_cell BK421.out 3).trans rfl; have hcz73_4 : w70.cell? ⟨gb421, 4, none⟩ = some (.int .i64 t420) := (blk_cell BK421.out 4).trans rfl; have hfz73_0 := blk_frozen BK421.out 0; have hfz73_1 := blk_frozen BK421.out 1; have hfz73_2 := blk_frozen BK421.out 2; have hfz73_3 := blk_frozen BK421.out 3; have hfz73_4 := blk_frozen BK421.out 4) | ((with_reducible refine gate_callee (f := 9) rfl ?_); refine goesL_ (some 34) rfl rfl Tryz.func9 (by kernel_rfl) rfl #[.agg #[.int .i64 t412, .slice Ao10 t413.length co10, .string t416, .slice Ao11 t417.length co11, .int .i64 t420]] rfl ga_ ?_; (with_reducible refine (impl_LeaderOk.calls kj4 t412 _ _ t413 t416 _ _ t417 t420 true _ ?side1 ?side2 ?side3 ?side4 A43.out).mono ?_); (case side1 => refine (Kd.S_reads' (e := 67) (base := w.heap.size) (ok := fun k_ => True) (n := t413.length) (c := co10) ?_).2.2; exact (by (with_reducible repeat (first | apply Kd.S_alloc | apply Kd.S_drewN | apply Kd.S_drew)); exact (Kd.S_mono (Kd.S_far (p := ⟨gb447, 4, none⟩) (Kd.S_far (p := ⟨gb447, 3, none⟩) (Kd.S_far (p := ⟨gb447, 2, none⟩) (Kd.S_far (p := ⟨gb447, 1, none⟩) (Kd.S_far (p := ⟨gb447, 0, none⟩) (Kd.S_types HO_422001.out BK447.out (by decide)) (fun _ hk => hk.2) (.bool false)) (fun _ hk => hk.2) (.int .i64 t443)) (fun _ hk => hk.2) (.int .i64 t444)) (fun _ hk => hk.2) (.string t445)) (fun _ hk => hk.2) (.int .i64 t446)) (fun _ h_ => h_.1)))); (case side2 => exact (Kd.S_reads' HO_422001.out).2.1); (case side3 => refine (Kd.R_reads' (e := 57) (base := w.heap.size) (ok := fun k_ => True) (n := t417.length) (c := co11) ?_).2.2; exact (by (with_reducible repeat (first | apply Kd.R_alloc | apply Kd.R_drewN | apply Kd.R_drew)); exact (Kd.R_mono (Kd.R_far (p := ⟨gb447, 4, none⟩) (Kd.R_far (p := ⟨gb447, 3, none⟩) (Kd.R_far (p := ⟨gb447, 2, none⟩) (Kd.R_far (p := ⟨gb447, 1, none⟩) (Kd.R_far (p := ⟨gb447, 0, none⟩) (Kd.R_types HO_422003.out BK447.out (by decide)) (fun _ hk => hk.2) (.bool false)) (fun _ hk => hk.2) (.int .i64 t443)) (fun _ hk => hk.2) (.int .i64 t444)) (fun _ hk => hk.2) (.string t445)) (fun _ hk => hk.2) (.int .i64 t446)) (fun _ h_ => h_.1)))); (case side4 => exact (Kd.R_reads' HO_422003.out).2.1); rintro e w74 ⟨rfl, hb⟩; refine ⟨_, rfl, ?_⟩; have n0_ := Aside0.mk (Kd.S_below (by (with_reducible repeat (first | apply Kd.S_alloc | apply Kd.S_drewN | apply Kd.S_drew)); exact (Kd.S_mono (Kd.S_far (p := ⟨gb447, 4, none⟩) (Kd.S_far (p := ⟨gb447, 3, none⟩) (Kd.S_far (p := ⟨gb447, 2, none⟩) (Kd.S_far (p := ⟨gb447, 1, none⟩) (Kd.S_far (p := ⟨gb447, 0, none⟩) (Kd.S_types HO_422001.out BK447.out (by decide)) (fun _ hk => hk.2) (.bool false)) (fun _ hk => hk.2) (.int .i64 t443)) (fun _ hk => hk.2) (.int .i64 t444)) (fun _ hk => hk.2) (.string t445)) (fun _ hk => hk.2) (.int .i64 t446)) (fun _ h_ => h_.1))) hb); have n1_ := Aside0.mk (Kd.R_below (by (with_reducible repeat (first | apply Kd.R_alloc | apply Kd.R_drewN | apply Kd.R_drew)); exact (Kd.R_mono (Kd.R_far (p := ⟨gb447, 4, none⟩) (Kd.R_far (p := ⟨gb447, 3, none⟩) (Kd.R_far (p := ⟨gb447, 2, none⟩) (Kd.R_far (p := ⟨gb447, 1, none⟩) (Kd.R_far (p := ⟨gb447, 0, none⟩) (Kd.R_types HO_422003.out BK447.out (by decide)) (fun _ hk => hk.2) (.bool false)) (fun _ hk => hk.2) (.int .i64 t443)) (fun _ hk => hk.2) (.int .i64 t444)) (fun _ hk => hk.2) (.string t445)) (fun _ hk => hk.2) (.int .i64 t446)) (fun _ h_ => h_.1))) hb); have n2_ := Aside0.mk (blk_below (g := gb421) (o := .cells #[.int .i64 t412, .slice Ao10 t413.length co10, .string t416, .slice Ao11 t417.length co11, .int .i64 t420] 31 (0, 0)) (bf_ BK421.out) hb); have n3_ := Aside0.mk (blk_below (g := gb447) (o := .cells #[.bool false, .int .i64 t443, .int .i64 t444, .string t445, .int .i64 t446] 35 (0, 0)) (by (with_reducible repeat (first | refine blk_drewN ?_ _ | refine blk_drew ?_ | refine blk_alloc ?_ _)); refine blk_put (cs := #[.bool false, .int .i64 t443, .int .i64 t444, .string t445, .int .i64 0]) ?_ 4 _ rfl; (with_reducible repeat (first | refine blk_drewN ?_ _ | refine blk_drew ?_ | refine blk_alloc ?_ _)); refine blk_put (cs := #[.bool false, .int .i64 t443, .int .i64 t444, .string (⟨#[]⟩ : ByteArray), .int .i64 0]) ?_ 3 _ rfl; (with_reducible repeat (first | refine blk_drewN ?_ _ | refine blk_drew ?_ | refine blk_alloc ?_ _)); refine blk_put (cs := #[.bool false, .int .i64 t443, .int .i64 0, .string (⟨#[]⟩ : ByteArray), .int .i64 0]) ?_ 2 _ rfl; (with_reducible repeat (first | refine blk_drewN ?_ _ | refine blk_drew ?_ | refine blk_alloc ?_ _)); refine blk_put (cs := #[.bool false, .int .i64 0, .int .i64 0, .string (⟨#[]⟩ : ByteArray), .int .i64 0]) ?_ 1 _ rfl; (with_reducible repeat (first | refine blk_drewN ?_ _ | refine blk_drew ?_ | refine blk_alloc ?_ _)); refine blk_put (cs := #[.bool false, .int .i64 0, .int .i64 0, .string (⟨#[]⟩ : ByteArray), .int .i64 0]) ?_ 0 _ rfl; (with_reducible repeat (first | refine blk_drewN ?_ _ | refine blk_drew ?_ | refine blk_alloc ?_ _)); exact BK447.out) hb); have n4_ := Aside0.mk (below_step bl_ hb); clear HO_422001; clear HO_422003; clear BK421; clear BK447; clear HB; have HO_422001 := n0_; have HO_422003 := n1_; have BK421 := n2_; have BK447 := n3_; have HB := n4_; clear n0_ n1_ n2_ n3_ n4_; (try clear hb); (try clear hb2); (try clear hk); (try clear hi); have hcz75_0 : w74.cell? ⟨gb421, 0, none⟩ = some (.int .i64 t412) := (blk_cell BK421.out 0).trans rfl; have hcz75_1 : w74.cell? ⟨gb421, 1, none⟩ = some (.slice Ao10 t413.length co10) := (blk_cell BK421.out 1).trans rfl; have hcz75_2 : w74.cell? ⟨gb421, 2, none⟩ = some (.string t416) := (blk_cell BK421.out 2).trans rfl; have hcz75_3 : w74.cell? ⟨gb421, 3, none⟩ = some (.slice Ao11 t417.length co11) := (blk_cell BK421.out 3).trans rfl; have hcz75_4 : w74.cell? ⟨gb421, 4, none⟩ = some (.int .i64 t420) := (blk_cell BK421.out 4).trans rfl; have hfz75_0 := blk_frozen BK421.out 0; have hfz75_1 := blk_frozen BK421.out 1; have hfz75_2 := blk_frozen BK421.out 2; have hfz75_3 := blk_frozen BK421.out 3; have hfz75_4 := blk_frozen BK421.out 4; have hcz76_0 : w74.cell? ⟨gb447, 0, none⟩ = some (.bool false) := (blk_cell BK447.out 0).trans rfl; have hcz76_1 : w74.cell? ⟨gb447, 1, none⟩ = some (.int .i64 t443) := (blk_cell BK447.out 1).trans rfl; have hcz76_2 : w74.cell? ⟨gb447, 2, none⟩ = some (.int .i64 t444) := (blk_cell BK447.out 2).trans rfl; have hcz76_3 : w74.cell? ⟨gb447, 3, none⟩ = some (.string t445) := (blk_cell BK447.out 3).trans rfl; have hcz76_4 : w74.cell? ⟨gb447, 4, none⟩ = some (.int .i64 t446) := (blk_cell BK447.out 4).trans rfl; have hfz76_0 := blk_frozen BK447.out 0; have hfz76_1 := blk_frozen BK447.out 1; have hfz76_2 := blk_frozen BK447.out 2; have hfz76_3 := blk_frozen BK447.out 3; have hfz76_4 := blk_frozen BK447.out 4))
        go_ret
        exact ⟨re_, bl_⟩
      ·rw [if_neg c45] at H
       have c45b0 : (t420 == 1) = false := beq_eq_false_iff_ne.mpr c45
       have c45b1 : (t420 != 1) = true := bne_iff_ne.mpr c45
       obtain rfl := Option.some.inj H
       have hcz77_0 : wc.cell? ⟨gb421, 0, none⟩ = some (.int .i64 t412) := (blk_cell BK421.out 0).trans rfl
       have hcz77_1 : wc.cell? ⟨gb421, 1, none⟩ = some (.slice Ao10 t413.length co10) := (blk_cell BK421.out 1).trans rfl
       have hcz77_2 : wc.cell? ⟨gb421, 2, none⟩ = some (.string t416) := (blk_cell BK421.out 2).trans rfl
       have hcz77_3 : wc.cell? ⟨gb421, 3, none⟩ = some (.slice Ao11 t417.length co11) := (blk_cell BK421.out 3).trans rfl
       have hcz77_4 : wc.cell? ⟨gb421, 4, none⟩ = some (.int .i64 t420) := (blk_cell BK421.out 4).trans rfl
       have hfz77_0 := blk_frozen BK421.out 0
       have hfz77_1 := blk_frozen BK421.out 1
       have hfz77_2 := blk_frozen BK421.out 2
       have hfz77_3 := blk_frozen BK421.out 3
       have hfz77_4 := blk_frozen BK421.out 4
       go_wp2_with (first | ((with_reducible refine gate_callee (f := 8) rfl ?_); refine goesL_ (some 32) rfl rfl Tryz.func8 (by kernel_rfl) rfl #[.agg #[.int .i64 t412, .slice Ao10 t413.length co10, .string t416, .slice Ao11 t417.length co11, .int .i64 t420], .agg #[.int .i64 0, .string (⟨#[]⟩ : ByteArray), .int .i64 0, .slice none 0 0]] rfl ga_ ?_; (refine (impl_PackFor.calls kj4 t412 _ _ t413 t416 _ _ t417 t420 0 (⟨#[]⟩ : ByteArray) 0 _ _ ([] : List (S67)) t442 t443 t444 t445 t446 _ ?side1 ?side2 ?side3 ?side4 ?side5 ?side6 A42.out).mono ?_); (case side1 => repeat (first | exact (Kd.S_reads' HO_422001.out).2.2 | (with_reducible refine Kd.C_alloc ?_ _) | (with_reducible refine Kd.C_drewN ?_ _) | (with_reducible refine Kd.C_drew ?_))); (case side2 => exact (Kd.S_reads' HO_422001.out).2.1); (case side3 => repeat (first | exact (Kd.R_reads' HO_422003.out).2.2 | (with_reducible refine Kd.C_alloc ?_ _) | (with_reducible refine Kd.C_drewN ?_ _) | (with_reducible refine Kd.C_drew ?_))); (case side4 => exact (Kd.R_reads' HO_422003.out).2.1); (case side5 => exact Kd.C_nil _ _); (case side6 => exact Nat.le_refl _); rintro e w78 ⟨rfl, hb⟩; refine ⟨_, rfl, ?_⟩; have n0_ := Aside0.mk (Kd.S_below (by (with_reducible repeat (first | apply Kd.S_alloc | apply Kd.S_drewN | apply Kd.S_drew)); exact HO_422001.out) hb); have n1_ := Aside0.mk (Kd.R_below (by (with_reducible repeat (first | apply Kd.R_alloc | apply Kd.R_drewN | apply Kd.R_drew)); exact HO_422003.out) hb); have n2_ := Aside0.mk (blk_below (g := gb421) (o := .cells #[.int .i64 t412, .slice Ao10 t413.length co10, .string t416, .slice Ao11 t417.length co11, .int .i64 t420] 31 (0, 0)) (bk_ BK421.out) hb); have n3_ := Aside0.mk (below_step bl_ hb); clear HO_422001; clear HO_422003; clear BK421; clear HB; have HO_422001 := n0_; have HO_422003 := n1_; have BK421 := n2_; have HB := n3_; clear n0_ n1_ n2_ n3_; (try clear hb); (try clear hb2); (try clear hk); (try clear hi)) | ((with_reducible refine gate_dst (N := 5) rfl ?_); refine box_event ?hg (N := 5) ?hd (cs := #[.bool false, .int .i64 0, .int .i64 0, .string (⟨#[]⟩ : ByteArray), .int .i64 0]) (t := 35) ?hr ?_; (case hd => rfl); (case hg => rfl); (case hr => first | (go_simp; done) | (go_simp; rfl)); intro gb447 hg w79 hbox hb; have n0_ := Aside0.mk (Kd.S_below (by (with_reducible repeat (first | apply Kd.S_alloc | apply Kd.S_drewN | apply Kd.S_drew)); exact HO_422001.out) hb); have n1_ := Aside0.mk (Kd.R_below (by (with_reducible repeat (first | apply Kd.R_alloc | apply Kd.R_drewN | apply Kd.R_drew)); exact HO_422003.out) hb); have n2_ := Aside0.mk (blk_below (g := gb421) (o := .cells #[.int .i64 t412, .slice Ao10 t413.length co10, .string t416, .slice Ao11 t417.length co11, .int .i64 t420] 31 (0, 0)) (bk_ BK421.out) hb); have n3_ := Aside0.mk (below_step bl_ hb); have n4_ := Aside0.mk (hbox); have n5_ := Aside0.mk ((by rw [hg]; exact (below_size bl_) : w.heap.size ≤ gb447)); have n6_ := Aside0.mk ((by rw [hg]; exact (below_size bl_) : w.heap.size ≤ gb447)); have n7_ := Aside0.mk ((by rw [hg]; exact Nat.ne_of_lt (blk_lt (g := gb421) (o := .cells #[.int .i64 t412, .slice Ao10 t413.length co10, .string t416, .slice Ao11 t417.length co11, .int .i64 t420] 31 (0, 0)) (bk_ BK421.out)) : gb421 ≠ gb447)); have n8_ := Aside0.mk ((by rw [hg]; exact Nat.ne_of_gt (blk_lt (g := gb421) (o := .cells #[.int .i64 t412, .slice Ao10 t413.length co10, .string t416, .slice Ao11 t417.length co11, .int .i64 t420] 31 (0, 0)) (bk_ BK421.out)) : gb447 ≠ gb421)); clear HO_422001; clear HO_422003; clear BK421; clear HB; have HO_422001 := n0_; have HO_422003 := n1_; have BK421 := n2_; have HB := n3_; have BK447 := n4_; have GW447 := n5_; have GE447 := n6_; have NB421_447 := n7_; have NB447_421 := n8_; clear n0_ n1_ n2_ n3_ n4_ n5_ n6_ n7_ n8_; clear hb hbox hg; have hnb80 := NB447_421.out; have hnc80 := NB421_447.out; have hcz81_0 : w79.cell? ⟨gb447, 0, none⟩ = some (.bool false) := (blk_cell BK447.out 0).trans rfl; have hcz81_1 : w79.cell? ⟨gb447, 1, none⟩ = some (.int .i64 0) := (blk_cell BK447.out 1).trans rfl; have hcz81_2 : w79.cell? ⟨gb447, 2, none⟩ = some (.int .i64 0) := (blk_cell BK447.out 2).trans rfl; have hcz81_3 : w79.cell? ⟨gb447, 3, none⟩ = some (.string (⟨#[]⟩ : ByteArray)) := (blk_cell BK447.out 3).trans rfl; have hcz81_4 : w79.cell? ⟨gb447, 4, none⟩ = some (.int .i64 0) := (blk_cell BK447.out 4).trans rfl; have hfz81_0 := blk_frozen BK447.out 0; have hfz81_1 := blk_frozen BK447.out 1; have hfz81_2 := blk_frozen BK447.out 2; have hfz81_3 := blk_frozen BK447.out 3; have hfz81_4 := blk_frozen BK447.out 4; have hcz82_0 : w79.cell? ⟨gb421, 0, none⟩ = some (.int .i64 t412) := (blk_cell BK421.out 0).trans rfl; have hcz82_1 : w79.cell? ⟨gb421, 1, none⟩ = some (.slice Ao10 t413.length co10) := (blk_cell BK421.out 1).trans rfl; have hcz82_2 : w79.cell? ⟨gb421, 2, none⟩ = some (.string t416) := (blk_cell BK421.out 2).trans rfl; have hcz82_3 : w79.cell? ⟨gb421, 3, none⟩ = some (.slice Ao11 t417.length co11) := (blk_cell BK421.out 3).trans rfl; have hcz82_4 : w79.cell? ⟨gb421, 4, none⟩ = some (.int .i64 t420) := (blk_cell BK421.out 4).trans rfl; have hfz82_0 := blk_frozen BK421.out 0; have hfz82_1 := blk_frozen BK421.out 1; have hfz82_2 := blk_frozen BK421.out 2; have hfz82_3 := blk_frozen BK421.out 3; have hfz82_4 := blk_frozen BK421.out 4) | ((with_reducible refine gate_callee (f := 9) rfl ?_); refine goesL_ (some 34) rfl rfl Tryz.func9 (by kernel_rfl) rfl #[.agg #[.int .i64 t412, .slice Ao10 t413.length co10, .string t416, .slice Ao11 t417.length co11, .int .i64 t420]] rfl ga_ ?_; (with_reducible refine (impl_LeaderOk.calls kj4 t412 _ _ t413 t416 _ _ t417 t420 true _ ?side1 ?side2 ?side3 ?side4 A43.out).mono ?_); (case side1 => refine (Kd.S_reads' (e := 67) (base := w.heap.size) (ok := fun k_ => True) (n := t413.length) (c := co10) ?_).2.2; exact (by (with_reducible repeat (first | apply Kd.S_alloc | apply Kd.S_drewN | apply Kd.S_drew)); exact (Kd.S_mono (Kd.S_far (p := ⟨gb447, 4, none⟩) (Kd.S_far (p := ⟨gb447, 3, none⟩) (Kd.S_far (p := ⟨gb447, 2, none⟩) (Kd.S_far (p := ⟨gb447, 1, none⟩) (Kd.S_far (p := ⟨gb447, 0, none⟩) (Kd.S_types HO_422001.out BK447.out (by decide)) (fun _ hk => hk.2) (.bool t442)) (fun _ hk => hk.2) (.int .i64 t443)) (fun _ hk => hk.2) (.int .i64 t444)) (fun _ hk => hk.2) (.string t445)) (fun _ hk => hk.2) (.int .i64 t446)) (fun _ h_ => h_.1)))); (case side2 => exact (Kd.S_reads' HO_422001.out).2.1); (case side3 => refine (Kd.R_reads' (e := 57) (base := w.heap.size) (ok := fun k_ => True) (n := t417.length) (c := co11) ?_).2.2; exact (by (with_reducible repeat (first | apply Kd.R_alloc | apply Kd.R_drewN | apply Kd.R_drew)); exact (Kd.R_mono (Kd.R_far (p := ⟨gb447, 4, none⟩) (Kd.R_far (p := ⟨gb447, 3, none⟩) (Kd.R_far (p := ⟨gb447, 2, none⟩) (Kd.R_far (p := ⟨gb447, 1, none⟩) (Kd.R_far (p := ⟨gb447, 0, none⟩) (Kd.R_types HO_422003.out BK447.out (by decide)) (fun _ hk => hk.2) (.bool t442)) (fun _ hk => hk.2) (.int .i64 t443)) (fun _ hk => hk.2) (.int .i64 t444)) (fun _ hk => hk.2) (.string t445)) (fun _ hk => hk.2) (.int .i64 t446)) (fun _ h_ => h_.1)))); (case side4 => exact (Kd.R_reads' HO_422003.out).2.1); rintro e w83 ⟨rfl, hb⟩; refine ⟨_, rfl, ?_⟩; have n0_ := Aside0.mk (Kd.S_below (by (with_reducible repeat (first | apply Kd.S_alloc | apply Kd.S_drewN | apply Kd.S_drew)); exact (Kd.S_mono (Kd.S_far (p := ⟨gb447, 4, none⟩) (Kd.S_far (p := ⟨gb447, 3, none⟩) (Kd.S_far (p := ⟨gb447, 2, none⟩) (Kd.S_far (p := ⟨gb447, 1, none⟩) (Kd.S_far (p := ⟨gb447, 0, none⟩) (Kd.S_types HO_422001.out BK447.out (by decide)) (fun _ hk => hk.2) (.bool t442)) (fun _ hk => hk.2) (.int .i64 t443)) (fun _ hk => hk.2) (.int .i64 t444)) (fun _ hk => hk.2) (.string t445)) (fun _ hk => hk.2) (.int .i64 t446)) (fun _ h_ => h_.1))) hb); have n1_ := Aside0.mk (Kd.R_below (by (with_reducible repeat (first | apply Kd.R_alloc | apply Kd.R_drewN | apply Kd.R_drew)); exact (Kd.R_mono (Kd.R_far (p := ⟨gb447, 4, none⟩) (Kd.R_far (p := ⟨gb447, 3, none⟩) (Kd.R_far (p := ⟨gb447, 2, none⟩) (Kd.R_far (p := ⟨gb447, 1, none⟩) (Kd.R_far (p := ⟨gb447, 0, none⟩) (Kd.R_types HO_422003.out BK447.out (by decide)) (fun _ hk => hk.2) (.bool t442)) (fun _ hk => hk.2) (.int .i64 t443)) (fun _ hk => hk.2) (.int .i64 t444)) (fun _ hk => hk.2) (.string t445)) (fun _ hk => hk.2) (.int .i64 t446)) (fun _ h_ => h_.1))) hb); have n2_ := Aside0.mk (blk_below (g := gb421) (o := .cells #[.int .i64 t412, .slice Ao10 t413.length co10, .string t416, .slice Ao11 t417.length co11, .int .i64 t420] 31 (0, 0)) (bf_ BK421.out) hb); have n3_ := Aside0.mk (blk_below (g := gb447) (o := .cells #[.bool t442, .int .i64 t443, .int .i64 t444, .string t445, .int .i64 t446] 35 (0, 0)) (by (with_reducible repeat (first | refine blk_drewN ?_ _ | refine blk_drew ?_ | refine blk_alloc ?_ _)); refine blk_put (cs := #[.bool t442, .int .i64 t443, .int .i64 t444, .string t445, .int .i64 0]) ?_ 4 _ rfl; (with_reducible repeat (first | refine blk_drewN ?_ _ | refine blk_drew ?_ | refine blk_alloc ?_ _)); refine blk_put (cs := #[.bool t442, .int .i64 t443, .int .i64 t444, .string (⟨#[]⟩ : ByteArray), .int .i64 0]) ?_ 3 _ rfl; (with_reducible repeat (first | refine blk_drewN ?_ _ | refine blk_drew ?_ | refine blk_alloc ?_ _)); refine blk_put (cs := #[.bool t442, .int .i64 t443, .int .i64 0, .string (⟨#[]⟩ : ByteArray), .int .i64 0]) ?_ 2 _ rfl; (with_reducible repeat (first | refine blk_drewN ?_ _ | refine blk_drew ?_ | refine blk_alloc ?_ _)); refine blk_put (cs := #[.bool t442, .int .i64 0, .int .i64 0, .string (⟨#[]⟩ : ByteArray), .int .i64 0]) ?_ 1 _ rfl; (with_reducible repeat (first | refine blk_drewN ?_ _ | refine blk_drew ?_ | refine blk_alloc ?_ _)); refine blk_put (cs := #[.bool false, .int .i64 0, .int .i64 0, .string (⟨#[]⟩ : ByteArray), .int .i64 0]) ?_ 0 _ rfl; (with_reducible repeat (first | refine blk_drewN ?_ _ | refine blk_drew ?_ | refine blk_alloc ?_ _)); exact BK447.out) hb); have n4_ := Aside0.mk (below_step bl_ hb); clear HO_422001; clear HO_422003; clear BK421; clear BK447; clear HB; have HO_422001 := n0_; have HO_422003 := n1_; have BK421 := n2_; have BK447 := n3_; have HB := n4_; clear n0_ n1_ n2_ n3_ n4_; (try clear hb); (try clear hb2); (try clear hk); (try clear hi); have hcz84_0 : w83.cell? ⟨gb421, 0, none⟩ = some (.int .i64 t412) := (blk_cell BK421.out 0).trans rfl; have hcz84_1 : w83.cell? ⟨gb421, 1, none⟩ = some (.slice Ao10 t413.length co10) := (blk_cell BK421.out 1).trans rfl; have hcz84_2 : w83.cell? ⟨gb421, 2, none⟩ = some (.string t416) := (blk_cell BK421.out 2).trans rfl; have hcz84_3 : w83.cell? ⟨gb421, 3, none⟩ = some (.slice Ao11 t417.length co11) := (blk_cell BK421.out 3).trans rfl; have hcz84_4 : w83.cell? ⟨gb421, 4, none⟩ = some (.int .i64 t420) := (blk_cell BK421.out 4).trans rfl; have hfz84_0 := blk_frozen BK421.out 0; have hfz84_1 := blk_frozen BK421.out 1; have hfz84_2 := blk_frozen BK421.out 2; have hfz84_3 := blk_frozen BK421.out 3; have hfz84_4 := blk_frozen BK421.out 4))
       go_ret
       exact ⟨re_, bl_⟩
     ·replace c44 := Bool.eq_false_iff.mpr c44
      subst c44
      have H1 : (some false) = some r := by rw [if_neg (show ¬ (false = true) by decide)] at H; exact H
      clear H
      have H := H1
      clear H1
      obtain rfl := Option.some.inj H
      have hcz85_0 : wc.cell? ⟨gb421, 0, none⟩ = some (.int .i64 t412) := (blk_cell BK421.out 0).trans rfl
      have hcz85_1 : wc.cell? ⟨gb421, 1, none⟩ = some (.slice Ao10 t413.length co10) := (blk_cell BK421.out 1).trans rfl
      have hcz85_2 : wc.cell? ⟨gb421, 2, none⟩ = some (.string t416) := (blk_cell BK421.out 2).trans rfl
      have hcz85_3 : wc.cell? ⟨gb421, 3, none⟩ = some (.slice Ao11 t417.length co11) := (blk_cell BK421.out 3).trans rfl
      have hcz85_4 : wc.cell? ⟨gb421, 4, none⟩ = some (.int .i64 t420) := (blk_cell BK421.out 4).trans rfl
      have hfz85_0 := blk_frozen BK421.out 0
      have hfz85_1 := blk_frozen BK421.out 1
      have hfz85_2 := blk_frozen BK421.out 2
      have hfz85_3 := blk_frozen BK421.out 3
      have hfz85_4 := blk_frozen BK421.out 4
      go_wp2_with (first | ((with_reducible refine gate_callee (f := 8) rfl ?_); refine goesL_ (some 32) rfl rfl Tryz.func8 (by kernel_rfl) rfl #[.agg #[.int .i64 t412, .slice Ao10 t413.length co10, .string t416, .slice Ao11 t417.length co11, .int .i64 t420], .agg #[.int .i64 0, .string (⟨#[]⟩ : ByteArray), .int .i64 0, .slice none 0 0]] rfl ga_ ?_; (refine (impl_PackFor.calls kj4 t412 _ _ t413 t416 _ _ t417 t420 0 (⟨#[]⟩ : ByteArray) 0 _ _ ([] : List (S67)) t442 t443 t444 t445 t446 _ ?side1 ?side2 ?side3 ?side4 ?side5 ?side6 A42.out).mono ?_); (case side1 => repeat (first | exact (Kd.S_reads' HO_422001.out).2.2 | (with_reducible refine Kd.C_alloc ?_ _) | (with_reducible refine Kd.C_drewN ?_ _) | (with_reducible refine Kd.C_drew ?_))); (case side2 => exact (Kd.S_reads' HO_422001.out).2.1); (case side3 => repeat (first | exact (Kd.R_reads' HO_422003.out).2.2 | (with_reducible refine Kd.C_alloc ?_ _) | (with_reducible refine Kd.C_drewN ?_ _) | (with_reducible refine Kd.C_drew ?_))); (case side4 => exact (Kd.R_reads' HO_422003.out).2.1); (case side5 => exact Kd.C_nil _ _); (case side6 => exact Nat.le_refl _); rintro e w86 ⟨rfl, hb⟩; refine ⟨_, rfl, ?_⟩; have n0_ := Aside0.mk (Kd.S_below (by (with_reducible repeat (first | apply Kd.S_alloc | apply Kd.S_drewN | apply Kd.S_drew)); exact HO_422001.out) hb); have n1_ := Aside0.mk (Kd.R_below (by (with_reducible repeat (first | apply Kd.R_alloc | apply Kd.R_drewN | apply Kd.R_drew)); exact HO_422003.out) hb); have n2_ := Aside0.mk (blk_below (g := gb421) (o := .cells #[.int .i64 t412, .slice Ao10 t413.length co10, .string t416, .slice Ao11 t417.length co11, .int .i64 t420] 31 (0, 0)) (bk_ BK421.out) hb); have n3_ := Aside0.mk (below_step bl_ hb); clear HO_422001; clear HO_422003; clear BK421; clear HB; have HO_422001 := n0_; have HO_422003 := n1_; have BK421 := n2_; have HB := n3_; clear n0_ n1_ n2_ n3_; (try clear hb); (try clear hb2); (try clear hk); (try clear hi)) | ((with_reducible refine gate_dst (N := 5) rfl ?_); refine box_event ?hg (N := 5) ?hd (cs := #[.bool false, .int .i64 0, .int .i64 0, .string (⟨#[]⟩ : ByteArray), .int .i64 0]) (t := 35) ?hr ?_; (case hd => rfl); (case hg => rfl); (case hr => first | (go_simp; done) | (go_simp; rfl)); intro gb447 hg w87 hbox hb; have n0_ := Aside0.mk (Kd.S_below (by (with_reducible repeat (first | apply Kd.S_alloc | apply Kd.S_drewN | apply Kd.S_drew)); exact HO_422001.out) hb); have n1_ := Aside0.mk (Kd.R_below (by (with_reducible repeat (first | apply Kd.R_alloc | apply Kd.R_drewN | apply Kd.R_drew)); exact HO_422003.out) hb); have n2_ := Aside0.mk (blk_below (g := gb421) (o := .cells #[.int .i64 t412, .slice Ao10 t413.length co10, .string t416, .slice Ao11 t417.length co11, .int .i64 t420] 31 (0, 0)) (bk_ BK421.out) hb); have n3_ := Aside0.mk (below_step bl_ hb); have n4_ := Aside0.mk (hbox); have n5_ := Aside0.mk ((by rw [hg]; exact (below_size bl_) : w.heap.size ≤ gb447)); have n6_ := Aside0.mk ((by rw [hg]; exact (below_size bl_) : w.heap.size ≤ gb447)); have n7_ := Aside0.mk ((by rw [hg]; exact Nat.ne_of_lt (blk_lt (g := gb421) (o := .cells #[.int .i64 t412, .slice Ao10 t413.length co10, .string t416, .slice Ao11 t417.length co11, .int .i64 t420] 31 (0, 0)) (bk_ BK421.out)) : gb421 ≠ gb447)); have n8_ := Aside0.mk ((by rw [hg]; exact Nat.ne_of_gt (blk_lt (g := gb421) (o := .cells #[.int .i64 t412, .slice Ao10 t413.length co10, .string t416, .slice Ao11 t417.length co11, .int .i64 t420] 31 (0, 0)) (bk_ BK421.out)) : gb447 ≠ gb421)); clear HO_422001; clear HO_422003; clear BK421; clear HB; have HO_422001 := n0_; have HO_422003 := n1_; have BK421 := n2_; have HB := n3_; have BK447 := n4_; have GW447 := n5_; have GE447 := n6_; have NB421_447 := n7_; have NB447_421 := n8_; clear n0_ n1_ n2_ n3_ n4_ n5_ n6_ n7_ n8_; clear hb hbox hg; have hnb88 := NB447_421.out; have hnc88 := NB421_447.out; have hcz89_0 : w87.cell? ⟨gb447, 0, none⟩ = some (.bool false) := (blk_cell BK447.out 0).trans rfl; have hcz89_1 : w87.cell? ⟨gb447, 1, none⟩ = some (.int .i64 0) := (blk_cell BK447.out 1).trans rfl; have hcz89_2 : w87.cell? ⟨gb447, 2, none⟩ = some (.int .i64 0) := (blk_cell BK447.out 2).trans rfl; have hcz89_3 : w87.cell? ⟨gb447, 3, none⟩ = some (.string (⟨#[]⟩ : ByteArray)) := (blk_cell BK447.out 3).trans rfl; have hcz89_4 : w87.cell? ⟨gb447, 4, none⟩ = some (.int .i64 0) := (blk_cell BK447.out 4).trans rfl; have hfz89_0 := blk_frozen BK447.out 0; have hfz89_1 := blk_frozen BK447.out 1; have hfz89_2 := blk_frozen BK447.out 2; have hfz89_3 := blk_frozen BK447.out 3; have hfz89_4 := blk_frozen BK447.out 4; have hcz90_0 : w87.cell? ⟨gb421, 0, none⟩ = some (.int .i64 t412) := (blk_cell BK421.out 0).trans rfl; have hcz90_1 : w87.cell? ⟨gb421, 1, none⟩ = some (.slice Ao10 t413.length co10) := (blk_cell BK421.out 1).trans rfl; have hcz90_2 : w87.cell? ⟨gb421, 2, none⟩ = some (.string t416) := (blk_cell BK421.out 2).trans rfl; have hcz90_3 : w87.cell? ⟨gb421, 3, none⟩ = some (.slice Ao11 t417.length co11) := (blk_cell BK421.out 3).trans rfl; have hcz90_4 : w87.cell? ⟨gb421, 4, none⟩ = some (.int .i64 t420) := (blk_cell BK421.out 4).trans rfl; have hfz90_0 := blk_frozen BK421.out 0; have hfz90_1 := blk_frozen BK421.out 1; have hfz90_2 := blk_frozen BK421.out 2; have hfz90_3 := blk_frozen BK421.out 3; have hfz90_4 := blk_frozen BK421.out 4) | ((with_reducible refine gate_callee (f := 9) rfl ?_); refine goesL_ (some 34) rfl rfl Tryz.func9 (by kernel_rfl) rfl #[.agg #[.int .i64 t412, .slice Ao10 t413.length co10, .string t416, .slice Ao11 t417.length co11, .int .i64 t420]] rfl ga_ ?_; (with_reducible refine (impl_LeaderOk.calls kj4 t412 _ _ t413 t416 _ _ t417 t420 false _ ?side1 ?side2 ?side3 ?side4 A43.out).mono ?_); (case side1 => refine (Kd.S_reads' (e := 67) (base := w.heap.size) (ok := fun k_ => True) (n := t413.length) (c := co10) ?_).2.2; exact (by (with_reducible repeat (first | apply Kd.S_alloc | apply Kd.S_drewN | apply Kd.S_drew)); exact (Kd.S_mono (Kd.S_far (p := ⟨gb447, 4, none⟩) (Kd.S_far (p := ⟨gb447, 3, none⟩) (Kd.S_far (p := ⟨gb447, 2, none⟩) (Kd.S_far (p := ⟨gb447, 1, none⟩) (Kd.S_far (p := ⟨gb447, 0, none⟩) (Kd.S_types HO_422001.out BK447.out (by decide)) (fun _ hk => hk.2) (.bool t442)) (fun _ hk => hk.2) (.int .i64 t443)) (fun _ hk => hk.2) (.int .i64 t444)) (fun _ hk => hk.2) (.string t445)) (fun _ hk => hk.2) (.int .i64 t446)) (fun _ h_ => h_.1)))); (case side2 => exact (Kd.S_reads' HO_422001.out).2.1); (case side3 => refine (Kd.R_reads' (e := 57) (base := w.heap.size) (ok := fun k_ => True) (n := t417.length) (c := co11) ?_).2.2; exact (by (with_reducible repeat (first | apply Kd.R_alloc | apply Kd.R_drewN | apply Kd.R_drew)); exact (Kd.R_mono (Kd.R_far (p := ⟨gb447, 4, none⟩) (Kd.R_far (p := ⟨gb447, 3, none⟩) (Kd.R_far (p := ⟨gb447, 2, none⟩) (Kd.R_far (p := ⟨gb447, 1, none⟩) (Kd.R_far (p := ⟨gb447, 0, none⟩) (Kd.R_types HO_422003.out BK447.out (by decide)) (fun _ hk => hk.2) (.bool t442)) (fun _ hk => hk.2) (.int .i64 t443)) (fun _ hk => hk.2) (.int .i64 t444)) (fun _ hk => hk.2) (.string t445)) (fun _ hk => hk.2) (.int .i64 t446)) (fun _ h_ => h_.1)))); (case side4 => exact (Kd.R_reads' HO_422003.out).2.1); rintro e w91 ⟨rfl, hb⟩; refine ⟨_, rfl, ?_⟩; have n0_ := Aside0.mk (Kd.S_below (by (with_reducible repeat (first | apply Kd.S_alloc | apply Kd.S_drewN | apply Kd.S_drew)); exact (Kd.S_mono (Kd.S_far (p := ⟨gb447, 4, none⟩) (Kd.S_far (p := ⟨gb447, 3, none⟩) (Kd.S_far (p := ⟨gb447, 2, none⟩) (Kd.S_far (p := ⟨gb447, 1, none⟩) (Kd.S_far (p := ⟨gb447, 0, none⟩) (Kd.S_types HO_422001.out BK447.out (by decide)) (fun _ hk => hk.2) (.bool t442)) (fun _ hk => hk.2) (.int .i64 t443)) (fun _ hk => hk.2) (.int .i64 t444)) (fun _ hk => hk.2) (.string t445)) (fun _ hk => hk.2) (.int .i64 t446)) (fun _ h_ => h_.1))) hb); have n1_ := Aside0.mk (Kd.R_below (by (with_reducible repeat (first | apply Kd.R_alloc | apply Kd.R_drewN | apply Kd.R_drew)); exact (Kd.R_mono (Kd.R_far (p := ⟨gb447, 4, none⟩) (Kd.R_far (p := ⟨gb447, 3, none⟩) (Kd.R_far (p := ⟨gb447, 2, none⟩) (Kd.R_far (p := ⟨gb447, 1, none⟩) (Kd.R_far (p := ⟨gb447, 0, none⟩) (Kd.R_types HO_422003.out BK447.out (by decide)) (fun _ hk => hk.2) (.bool t442)) (fun _ hk => hk.2) (.int .i64 t443)) (fun _ hk => hk.2) (.int .i64 t444)) (fun _ hk => hk.2) (.string t445)) (fun _ hk => hk.2) (.int .i64 t446)) (fun _ h_ => h_.1))) hb); have n2_ := Aside0.mk (blk_below (g := gb421) (o := .cells #[.int .i64 t412, .slice Ao10 t413.length co10, .string t416, .slice Ao11 t417.length co11, .int .i64 t420] 31 (0, 0)) (bf_ BK421.out) hb); have n3_ := Aside0.mk (blk_below (g := gb447) (o := .cells #[.bool t442, .int .i64 t443, .int .i64 t444, .string t445, .int .i64 t446] 35 (0, 0)) (by (with_reducible repeat (first | refine blk_drewN ?_ _ | refine blk_drew ?_ | refine blk_alloc ?_ _)); refine blk_put (cs := #[.bool t442, .int .i64 t443, .int .i64 t444, .string t445, .int .i64 0]) ?_ 4 _ rfl; (with_reducible repeat (first | refine blk_drewN ?_ _ | refine blk_drew ?_ | refine blk_alloc ?_ _)); refine blk_put (cs := #[.bool t442, .int .i64 t443, .int .i64 t444, .string (⟨#[]⟩ : ByteArray), .int .i64 0]) ?_ 3 _ rfl; (with_reducible repeat (first | refine blk_drewN ?_ _ | refine blk_drew ?_ | refine blk_alloc ?_ _)); refine blk_put (cs := #[.bool t442, .int .i64 t443, .int .i64 0, .string (⟨#[]⟩ : ByteArray), .int .i64 0]) ?_ 2 _ rfl; (with_reducible repeat (first | refine blk_drewN ?_ _ | refine blk_drew ?_ | refine blk_alloc ?_ _)); refine blk_put (cs := #[.bool t442, .int .i64 0, .int .i64 0, .string (⟨#[]⟩ : ByteArray), .int .i64 0]) ?_ 1 _ rfl; (with_reducible repeat (first | refine blk_drewN ?_ _ | refine blk_drew ?_ | refine blk_alloc ?_ _)); refine blk_put (cs := #[.bool false, .int .i64 0, .int .i64 0, .string (⟨#[]⟩ : ByteArray), .int .i64 0]) ?_ 0 _ rfl; (with_reducible repeat (first | refine blk_drewN ?_ _ | refine blk_drew ?_ | refine blk_alloc ?_ _)); exact BK447.out) hb); have n4_ := Aside0.mk (below_step bl_ hb); clear HO_422001; clear HO_422003; clear BK421; clear BK447; clear HB; have HO_422001 := n0_; have HO_422003 := n1_; have BK421 := n2_; have BK447 := n3_; have HB := n4_; clear n0_ n1_ n2_ n3_ n4_; (try clear hb); (try clear hb2); (try clear hk); (try clear hi)))
      go_ret
      exact ⟨re_, bl_⟩

/-- THE ONE PURE STATEMENT of laws_FnLeaderNew: yours. -/
def laws_FnLeaderNew.Pure : Prop := ∀ (l0 : List Int), l0.length ≤ maxLen → l0.length * 1 ≤ 140737488351232 → (∀ x ∈ l0, (Lit.int .u8 x).wf = true) → ∃ k, laws_FnLeaderNew.f k l0 = some true
theorem laws_FnLeaderNew.walk (P : laws_FnLeaderNew.Pure) (a0 : Option Addr) (len0 cap0 : Nat) (z0 : List Int) (w : World) (w0 : (a0 = none ∧ len0 = 0 ∧ cap0 = 0 ∧ z0 = []) ∨ ∃ x, a0 = some x ∧ len0 ≤ cap0 ∧ cap0 ≤ maxLen ∧ z0.length = cap0 ∧ (∀ i, i < z0.length → w.cell? (x.add i) = some (.int .u8 (z0.getD i 0))) ∧ ∀ n ∈ z0, (Lit.int .u8 n).wf = true) (y0 : len0 * 1 ≤ 140737488351232) :
  Calls Tryz.prog 3 #[.slice a0 len0 cap0] w fun e w' => e = .returned (.bool true) ∧ Below w.heap.size w w' := by
 obtain ⟨l0, rfl, hr0, hm0, hw0, hc0⟩ := ReadsInt.ofRowC w0
 obtain ⟨k, h⟩ := P l0 hm0 y0 hw0
 refine (laws_FnLeaderNew.calls k _ _ l0 true w (Kd.C_of_reads (d := (0 : Int)) (h1 := fun _ => rfl) hr0) hc0 h).mono ?_
 rintro e w' ⟨rfl, hd⟩
 exact ⟨rfl, hd⟩

end Go.Proofs.YtkgomifdmpkaeaaGreatDoor.Ldn
