/- Contracts of functions of the program: each call returns what the plain function '.f' of that name says, wherever it says something. -/
import Derived.Test.YtkgomifdmpkaeaaGreatDoorLdn0
import Derived.Test.YtkgomifdmpkaeaaGreatDoorLdn1
import Derived.Test.YtkgomifdmpkaeaaGreatDoorLdn9
namespace Go.Proofs.YtkgomifdmpkaeaaGreatDoor.Ldn
open Go.RowKit Go.Proofs.YtkgomifdmpkaeaaGreatDoorW.PrintWords Go.Proofs.YtkgomifdmpkaeaaGreatDoorW.PrintLast Go.Proofs.YtkgomifdmpkaeaaGreatDoorW.PrintMore
attribute [local go_sem] max2_int min2_int max_two min_two max_three min_three max_four min_four   -- for this text's walks alone
set_option linter.unusedVariables false
set_option linter.unusedSimpArgs false

/-! ### impl_isOrder: function 34 -/
def impl_isOrder.f (k : Nat) (l0 : List ByteArray) : Option (Bool) := if (l0.length : Int) > 0 then ((impl_textsOk.f k l0 8).bind fun t370 => (some t370)) else (some false)
theorem impl_isOrder.mono : ∀ a0 k, LeO (impl_isOrder.f k a0) (impl_isOrder.f (k + 1) a0) := by
 intro a0 k
 unfold impl_isOrder.f
 repeat' first
   | (with_reducible exact impl_textsOk.mono _ _ _)
   | (with_reducible exact LeO.refl _)
   | (with_reducible exact LeO.none _)
   | (with_reducible refine LeO.ite ?_ ?_)
   | (with_reducible refine LeO.bind ?_ (fun _ => ?_))
   | exact impl_textsOk.mono _ _ _
   | exact LeO.none _
   | refine LeO.ite ?_ ?_
   | refine LeO.bind ?_ (fun _ => ?_)
set_option maxHeartbeats 8000000 in
set_option maxRecDepth 100000 in
theorem impl_isOrder.calls (k : Nat) (A0 : Option Addr) (c0 : Nat) (l0 : List ByteArray) (r : Bool) (w : World) (hr0 : Kd.C Kd.string w A0 l0.length l0) (hc0 : l0.length ≤ c0) (h : impl_isOrder.f k l0 = some r) :
  Calls Tryz.prog 34 #[.slice A0 l0.length c0] w fun e w' => e = .returned (.bool r) ∧ Drawn0 w w' := by
 have HR0 := Aside0.mk hr0
 have HC0 := Aside0.mk hc0
 clear hr0 hc0
 have H : (if (l0.length : Int) > 0 then ((impl_textsOk.f k l0 8).bind fun t370 => (some t370)) else (some false)) = some r := h
 clear h
 by_cases c2 : (l0.length : Int) > 0
 ·rw [if_pos c2] at H
  have c2b0 : decide (0 < (l0.length : Int)) = true := decide_eq_true c2
  have c2b1 : decide (0 < l0.length) = true := decide_eq_true (by omega)
  clear c2
  replace H := Option.bind_eq_some_iff.mp H
  obtain ⟨t370, A30, H⟩ := H
  replace H : (some t370) = some r := H
  have A3 := Aside0.mk A30
  clear A30
  obtain rfl := Option.some.inj H
  go_enter Tryz.func34, Tryz.ntmps34
  go_wp2_with (first | (go_at_call 46; (with_reducible refine (impl_textsOk.calls k _ _ l0 8 t370 _ ?side1 ?side2 A3.out).mono ?_); (case side1 => repeat (first | exact HR0.out | (with_reducible refine Kd.C_alloc ?_ _) | (with_reducible refine Kd.C_drewN ?_ _) | (with_reducible refine Kd.C_drew ?_))); (case side2 => exact HC0.out); rintro e w' ⟨rfl, ⟨nd, rfl⟩⟩))
  go_ret
  exact ⟨by first | rfl | (simp; done) | (simp [*]; done), by repeat (first | exact Drawn0.refl _ | apply Drawn0.step)⟩
 ·rw [if_neg c2] at H
  have c2b0 : decide (0 < (l0.length : Int)) = false := decide_eq_false c2
  have c2b1 : decide (0 < l0.length) = false := decide_eq_false (by omega)
  clear c2
  obtain rfl := Option.some.inj H
  go_enter Tryz.func34, Tryz.ntmps34
  go_wp2
  go_ret
  exact ⟨by first | rfl | (simp; done) | (simp [*]; done), by repeat (first | exact Drawn0.refl _ | apply Drawn0.step)⟩

/-! ### impl_keyOk: function 35 -/
def impl_keyOk.f (a0 : ByteArray) : Option (Bool) := (impl_within.f (a0.size : Int) 1 12).bind fun t371 => (some t371)
set_option maxHeartbeats 8000000 in
set_option maxRecDepth 100000 in
theorem impl_keyOk.calls (a0 : ByteArray) (r : Bool) (w : World) (h : impl_keyOk.f a0 = some r) :
  Calls Tryz.prog 35 #[.string a0] w fun e w' => e = .returned (.bool r) ∧ Drawn0 w w' := by
 have H : ((impl_within.f (a0.size : Int) 1 12).bind fun t371 => (some t371)) = some r := h
 clear h
 replace H := Option.bind_eq_some_iff.mp H
 obtain ⟨t371, A20, H⟩ := H
 replace H : (some t371) = some r := H
 have A2 := Aside0.mk A20
 clear A20
 obtain rfl := Option.some.inj H
 go_enter Tryz.func35, Tryz.ntmps35
 go_wp2_with (first | ((with_reducible refine gate_callee (f := 19) rfl ?_); refine goesL_ (some 5) rfl rfl Tryz.func19 (by kernel_rfl) rfl #[.int .i64 (a0.size : Int), .int .i64 1, .int .i64 12] rfl ga_ ?_; (with_reducible refine (impl_within.calls (a0.size : Int) 1 12 t371 _ A2.out).mono ?_); rintro e w' ⟨rfl, ⟨nd, rfl⟩⟩; refine ⟨_, rfl, ?_⟩))
 go_ret
 exact ⟨by first | rfl | (simp; done) | (simp [*]; done), by repeat (first | exact Drawn0.refl _ | apply Drawn0.step)⟩

/-! ### impl_SetOk: function 36 -/
set_option maxHeartbeats 1000000 in
set_option maxRecDepth 100000 in
theorem setOk_nil (A : Option Addr) (c : Nat) (w : World) : Calls Tryz.prog 36 #[.slice A 0 c] w fun e w' => e = .returned (.bool true) ∧ Below w.heap.size w w' := by
 go_enter Tryz.func36, Tryz.ntmps36
 go_wp2
 refine wp_loop_rounds 1 ?_
 rw [rounds_succ]
 go_wp2
 refine wp_loop_rounds 1 ?_
 rw [rounds_succ]
 go_wp2
 go_ret
 exact ⟨rfl, by repeat (first | (with_reducible first | exact Below.refl _ _ | apply below_alloc | apply pw_below_drewN | apply below_drew1 | refine below_set ?_ (Nat.le_refl _)) | exact Below.refl _ _)⟩
def impl_SetOk.f (l0 : List ByteArray) : Option (Bool) := if l0.isEmpty = true then some true else none
theorem impl_SetOk.calls (A0 : Option Addr) (c0 : Nat) (l0 : List ByteArray) (r : Bool) (w : World) (hr0 : Kd.C Kd.string w A0 l0.length l0) (hc0 : l0.length ≤ c0) (h : impl_SetOk.f l0 = some r) :
  Calls Tryz.prog 36 #[.slice A0 l0.length c0] w fun e w' => e = .returned (.bool r) ∧ Below w.heap.size w w' := by
 unfold impl_SetOk.f at h
 split at h
 ·rename_i he
  obtain rfl := List.isEmpty_iff.1 he
  obtain rfl := Option.some.inj h
  exact setOk_nil A0 c0 w
 ·cases h

/-! ### impl_clientOk: function 26 -/
mutual
def impl_clientOk.l0 : Nat → List (List ByteArray) → Int → Int → Bool → Bool → List (List ByteArray) → List ByteArray → Bool → List ByteArray → Option (Bool)
 | 0, _, _, _, _, _, _, _, _, _ => none
 | k + 1, x8, x9, x10, x373000, x373001, x373002, x373003, x373004, x373005 => if x10 < x9 then (if 0 ≤ x10 then (if x10 < (x8.length : Int) then ((impl_isOrder.f k (rd_L2 x8 x10)).bind fun t374 => (if t374 = true then (impl_clientOk.l0 k x8 x9 (wrap64 (x10 + 1)) x373000 x373001 x373002 x373003 x373004 x373005) else (some false))) else (none)) else (none)) else (impl_clientOk.l1 k x373003 (x373003.length : Int) 0 x373000 x373001 x373002 x373003 x373004 x373005)
def impl_clientOk.l1 : Nat → List ByteArray → Int → Int → Bool → Bool → List (List ByteArray) → List ByteArray → Bool → List ByteArray → Option (Bool)
 | 0, _, _, _, _, _, _, _, _, _ => none
 | k + 1, x19, x20, x21, x373000, x373001, x373002, x373003, x373004, x373005 => if x21 < x20 then (if 0 ≤ x21 then (if x21 < (x19.length : Int) then ((impl_keyOk.f (rdOf ByteArray.empty x19 x21)).bind fun t376 => (if t376 = true then (if x21 > 0 then (if 0 ≤ (wrap64 (x21 - 1)) then (if (wrap64 (x21 - 1)) < (x373003.length : Int) then (if ((Op.bytesLess ((rdOf ByteArray.empty x373003 (wrap64 (x21 - 1))).toList) ((rdOf ByteArray.empty x19 x21).toList)) = true) then (impl_clientOk.l1 k x19 x20 (wrap64 (x21 + 1)) x373000 x373001 x373002 x373003 x373004 x373005) else (some false)) else (none)) else (none)) else (impl_clientOk.l1 k x19 x20 (wrap64 (x21 + 1)) x373000 x373001 x373002 x373003 x373004 x373005)) else (some false))) else (none)) else (none)) else (if (x373002.length : Int) > 6 then (some false) else (if x373000 = true then (if (x373003.length : Int) ≤ 4 then (if x373004 = true then (if (x373003.length : Int) > 0 then ((impl_SetOk.f x373005).bind fun t378 => (if t378 = true then (some (decide ((x373005.length : Int) ≤ 4))) else (some false))) else (some false)) else ((impl_SetOk.f x373005).bind fun t379 => (if t379 = true then (some (decide ((x373005.length : Int) ≤ 4))) else (some false)))) else (some false)) else (if x373001 = true then (some false) else (if (x373002.length : Int) > 0 then (some false) else (if (x373003.length : Int) ≤ 4 then (if x373004 = true then (if (x373003.length : Int) > 0 then ((impl_SetOk.f x373005).bind fun t380 => (if t380 = true then (some (decide ((x373005.length : Int) ≤ 4))) else (some false))) else (some false)) else ((impl_SetOk.f x373005).bind fun t381 => (if t381 = true then (some (decide ((x373005.length : Int) ≤ 4))) else (some false)))) else (some false))))))
end
def impl_clientOk.f (k : Nat) (a0_0 : Bool) (a0_1 : Bool) (l0_2 : List (List ByteArray)) (l0_3 : List ByteArray) (a0_4 : Bool) (l0_5 : List ByteArray) : Option (Bool) := impl_clientOk.l0 k l0_2 (l0_2.length : Int) 0 a0_0 a0_1 l0_2 l0_3 a0_4 l0_5
theorem impl_clientOk.mono_l : ∀ k, (∀ y0 y1 y2 y3 y4 y5 y6 y7 y8, LeO (impl_clientOk.l0 k y0 y1 y2 y3 y4 y5 y6 y7 y8) (impl_clientOk.l0 (k + 1) y0 y1 y2 y3 y4 y5 y6 y7 y8)) ∧ (∀ y0 y1 y2 y3 y4 y5 y6 y7 y8, LeO (impl_clientOk.l1 k y0 y1 y2 y3 y4 y5 y6 y7 y8) (impl_clientOk.l1 (k + 1) y0 y1 y2 y3 y4 y5 y6 y7 y8))
 | 0 => ⟨fun _ _ _ _ _ _ _ _ _ r h => by simp [impl_clientOk.l0] at h, fun _ _ _ _ _ _ _ _ _ r h => by simp [impl_clientOk.l1] at h⟩
 | k + 1 => by
  obtain ⟨ih0, ih1⟩ := impl_clientOk.mono_l k
  refine ⟨?_, ?_⟩
  ·intro y0 y1 y2 y3 y4 y5 y6 y7 y8
   unfold impl_clientOk.l0
   repeat' first
   | (with_reducible exact ih0 _ _ _ _ _ _ _ _ _)
   | (with_reducible exact ih1 _ _ _ _ _ _ _ _ _)
   | (with_reducible exact impl_isOrder.mono _ _)
   | (with_reducible exact LeO.refl _)
   | (with_reducible exact LeO.none _)
   | (with_reducible refine LeO.ite ?_ ?_)
   | (with_reducible refine LeO.bind ?_ (fun _ => ?_))
   | exact ih0 _ _ _ _ _ _ _ _ _
   | exact ih1 _ _ _ _ _ _ _ _ _
   | exact impl_isOrder.mono _ _
   | exact LeO.none _
   | refine LeO.ite ?_ ?_
   | refine LeO.bind ?_ (fun _ => ?_)
  ·intro y0 y1 y2 y3 y4 y5 y6 y7 y8
   unfold impl_clientOk.l1
   repeat' first
   | (with_reducible exact ih0 _ _ _ _ _ _ _ _ _)
   | (with_reducible exact ih1 _ _ _ _ _ _ _ _ _)
   | (with_reducible exact impl_isOrder.mono _ _)
   | (with_reducible exact LeO.refl _)
   | (with_reducible exact LeO.none _)
   | (with_reducible refine LeO.ite ?_ ?_)
   | (with_reducible refine LeO.bind ?_ (fun _ => ?_))
   | exact ih0 _ _ _ _ _ _ _ _ _
   | exact ih1 _ _ _ _ _ _ _ _ _
   | exact impl_isOrder.mono _ _
   | exact LeO.none _
   | refine LeO.ite ?_ ?_
   | refine LeO.bind ?_ (fun _ => ?_)
theorem impl_clientOk.mono : ∀ a0 a1 a2 a3 a4 a5 k, LeO (impl_clientOk.f k a0 a1 a2 a3 a4 a5) (impl_clientOk.f (k + 1) a0 a1 a2 a3 a4 a5) := by
 intro a0 a1 a2 a3 a4 a5 k
 obtain ⟨ih0, ih1⟩ := impl_clientOk.mono_l k
 unfold impl_clientOk.f
 repeat' first
   | (with_reducible exact ih0 _ _ _ _ _ _ _ _ _)
   | (with_reducible exact ih1 _ _ _ _ _ _ _ _ _)
   | (with_reducible exact impl_isOrder.mono _ _)
   | (with_reducible exact LeO.refl _)
   | (with_reducible exact LeO.none _)
   | (with_reducible refine LeO.ite ?_ ?_)
   | (with_reducible refine LeO.bind ?_ (fun _ => ?_))
   | exact ih0 _ _ _ _ _ _ _ _ _
   | exact ih1 _ _ _ _ _ _ _ _ _
   | exact impl_isOrder.mono _ _
   | exact LeO.none _
   | refine LeO.ite ?_ ?_
   | refine LeO.bind ?_ (fun _ => ?_)
set_option maxHeartbeats 8000000 in
set_option maxRecDepth 100000 in
theorem impl_clientOk.calls (k : Nat) (a0_0 : Bool) (a0_1 : Bool) (A0_2 : Option Addr) (c0_2 : Nat) (l0_2 : List (List ByteArray)) (A0_3 : Option Addr) (c0_3 : Nat) (l0_3 : List ByteArray) (a0_4 : Bool) (A0_5 : Option Addr) (c0_5 : Nat) (l0_5 : List ByteArray) (r : Bool) (w : World) (hr0_2 : Kd.C (Kd.slice 9 Kd.string) w A0_2 l0_2.length l0_2) (hc0_2 : l0_2.length ≤ c0_2) (hr0_3 : Kd.C Kd.string w A0_3 l0_3.length l0_3) (hc0_3 : l0_3.length ≤ c0_3) (hr0_5 : Kd.C Kd.string w A0_5 l0_5.length l0_5) (hc0_5 : l0_5.length ≤ c0_5) (h : impl_clientOk.f k a0_0 a0_1 l0_2 l0_3 a0_4 l0_5 = some r) :
  Calls Tryz.prog 26 #[.agg #[.bool a0_0, .bool a0_1, .slice A0_2 l0_2.length c0_2, .slice A0_3 l0_3.length c0_3, .bool a0_4, .slice A0_5 l0_5.length c0_5]] w fun e w' => e = .returned (.bool r) ∧ Below w.heap.size w w' := by
 have hu57 := Tryz.underlying57
 have HR0_2 := Aside0.mk hr0_2
 have HC0_2 := Aside0.mk hc0_2
 clear hr0_2 hc0_2
 have HR0_3 := Aside0.mk hr0_3
 have HC0_3 := Aside0.mk hc0_3
 clear hr0_3 hc0_3
 have HR0_5 := Aside0.mk hr0_5
 have HC0_5 := Aside0.mk hc0_5
 clear hr0_5 hc0_5
 have HB := Aside0.mk (Below.refl w.heap.size w)
 have H : (impl_clientOk.l0 k l0_2 (l0_2.length : Int) 0 a0_0 a0_1 l0_2 l0_3 a0_4 l0_5) = some r := h
 clear h
 have H' := Aside0.mk H
 clear H
 go_enter Tryz.func26, Tryz.ntmps26
 go_wp2_with (first | ((with_reducible refine gate_dst (N := 1) rfl ?_); (try (refine gate_guard (by rfl) ?_; dsimp only)); refine box_event ?hg (N := 1) ?hd (cs := #[.bool a0_0, .bool a0_1, .slice A0_2 l0_2.length c0_2, .slice A0_3 l0_3.length c0_3, .bool a0_4, .slice A0_5 l0_5.length c0_5]) (t := 57) ?hr ?_; (case hd => rfl); (case hg => rfl); (case hr => first | (go_simp; done) | (go_simp; rfl)); intro gb372 hg w2 hbox hb; have n0_ := Aside0.mk (below_step bl_ hb); have n1_ := Aside0.mk (hbox); have n2_ := Aside0.mk ((by rw [hg]; exact (below_size bl_) : w.heap.size ≤ gb372)); have n3_ := Aside0.mk ((by rw [hg]; exact (below_size bl_) : w.heap.size ≤ gb372)); clear HB; have HB := n0_; have BK372 := n1_; have GW372 := n2_; have GE372 := n3_; clear n0_ n1_ n2_ n3_; clear hb hbox hg; have hcz3_0 : w2.cell? ⟨gb372, 0, none⟩ = some (.bool a0_0) := (blk_cell BK372.out 0).trans rfl; have hcz3_1 : w2.cell? ⟨gb372, 1, none⟩ = some (.bool a0_1) := (blk_cell BK372.out 1).trans rfl; have hcz3_2 : w2.cell? ⟨gb372, 2, none⟩ = some (.slice A0_2 l0_2.length c0_2) := (blk_cell BK372.out 2).trans rfl; have hcz3_3 : w2.cell? ⟨gb372, 3, none⟩ = some (.slice A0_3 l0_3.length c0_3) := (blk_cell BK372.out 3).trans rfl; have hcz3_4 : w2.cell? ⟨gb372, 4, none⟩ = some (.bool a0_4) := (blk_cell BK372.out 4).trans rfl; have hcz3_5 : w2.cell? ⟨gb372, 5, none⟩ = some (.slice A0_5 l0_5.length c0_5) := (blk_cell BK372.out 5).trans rfl; have hfz3_0 := blk_frozen BK372.out 0; have hfz3_1 := blk_frozen BK372.out 1; have hfz3_2 := blk_frozen BK372.out 2; have hfz3_3 := blk_frozen BK372.out 3; have hfz3_4 := blk_frozen BK372.out 4; have hfz3_5 := blk_frozen BK372.out 5))
 go_loopg [10] k (fun kq v10 w' => ∃ (x10_1 : Int), v10 = .int .i64 x10_1 ∧ Aside0 (impl_clientOk.l0 kq l0_2 (l0_2.length : Int) x10_1 a0_0 a0_1 l0_2 l0_3 a0_4 l0_5 = some r) ∧ Aside0 (kq ≤ k) ∧ Aside0 (w'.heap[gb372]? = some (.cells #[.bool a0_0, .bool a0_1, (.slice A0_2 l0_2.length c0_2), (.slice A0_3 l0_3.length c0_3), .bool a0_4, (.slice A0_5 l0_5.length c0_5)] 57 (0, 0))) ∧ Aside0 (Below w.heap.size w w'))
 case atStart => exact ⟨(0), rs_, H', ⟨Nat.le_refl _⟩, ⟨bk_ BK372.out⟩, ⟨bl_⟩⟩
 case round =>
  clear H'
  try clear c2
  try clear p2
  try clear hcz3_0
  try clear hcz3_1
  try clear hcz3_2
  try clear hcz3_3
  try clear hcz3_4
  try clear hcz3_5
  try clear hfz3_0
  try clear hfz3_1
  try clear hfz3_2
  try clear hfz3_3
  try clear hfz3_4
  try clear hfz3_5
  obtain ⟨x10_1, rfl, HA, HK1, BK372, HB⟩ := hrel
  cases gk with
  | zero => exact absurd HA.out (by simp [impl_clientOk.l0])
  | succ k1 =>
   have H := HA.out
   clear HA
   simp only [impl_clientOk.l0] at H
   by_cases c4 : x10_1 < (l0_2.length : Int)
   ·rw [if_pos c4] at H
    have c4b0 : decide (x10_1 < (l0_2.length : Int)) = true := decide_eq_true c4
    clear c4
    by_cases c5 : 0 ≤ x10_1
    ·rw [if_pos c5] at H
     have c5b0 : decide (0 ≤ x10_1) = true := decide_eq_true c5
     clear c5
     by_cases c6 : x10_1 < (l0_2.length : Int)
     ·rw [if_pos c6] at H
      have c6b0 : decide (x10_1 < (l0_2.length : Int)) = true := decide_eq_true c6
      clear c6
      replace H := Option.bind_eq_some_iff.mp H
      obtain ⟨t374, A70, H⟩ := H
      replace H : (if t374 = true then (impl_clientOk.l0 k1 l0_2 (l0_2.length : Int) (wrap64 (x10_1 + 1)) a0_0 a0_1 l0_2 l0_3 a0_4 l0_5) else (some false)) = some r := H
      have A7 := Aside0.mk A70
      clear A70
      by_cases c8 : t374 = true
      ·subst c8
       have H1 : (impl_clientOk.l0 k1 l0_2 (l0_2.length : Int) (wrap64 (x10_1 + 1)) a0_0 a0_1 l0_2 l0_3 a0_4 l0_5) = some r := by rw [if_pos rfl] at H; exact H
       clear H
       have H := H1
       clear H1
       have H' := Aside0.mk H
       clear H
       have p373 : 0 ≤ (x10_1 : Int) := od_
       have q373 : x10_1 < (l0_2.length : Int) := od_
       obtain ⟨ad373, A373_0, c373_0, e373, hx373_0, hl373_0, hi373_0⟩ := at_L2 HR0_2.out x10_1 p373 q373
       cases e373
       replace hx373_0 := (HB.out.cell (World.block_lt_of_cell? w _ hx373_0)).trans hx373_0
       have HR373_0 := Aside0.mk hi373_0
       have HC373_0 := Aside0.mk hl373_0
       clear hi373_0 hl373_0
       replace p373 := eq_true p373
       replace q373 := eq_true q373
       go_wp2_with (first | ((with_reducible refine gate_callee (f := 34) rfl ?_); refine goesL_ (some 15) rfl rfl Tryz.func34 (by kernel_rfl) rfl #[.slice A373_0 (rd_L2 l0_2 x10_1).length c373_0] rfl ga_ ?_; (with_reducible refine (impl_isOrder.calls k1 _ _ (rd_L2 l0_2 x10_1) true _ ?side1 ?side2 A7.out).mono ?_); (case side1 => repeat (first | exact (Kd.C_below HR373_0.out HB.out) | (with_reducible refine Kd.C_alloc ?_ _) | (with_reducible refine Kd.C_drewN ?_ _) | (with_reducible refine Kd.C_drew ?_))); (case side2 => exact HC373_0.out); rintro e w' ⟨rfl, ⟨nd, rfl⟩⟩; refine ⟨_, rfl, ?_⟩))
       go_roundg k1
       case measure => have := HK1.out; omega
       case rel => exact ⟨(wrap64 (x10_1 + 1)), rs_, H', ⟨by have := HK1.out; omega⟩, ⟨bk_ BK372.out⟩, ⟨bl_⟩⟩
      ·replace c8 := Bool.eq_false_iff.mpr c8
       subst c8
       have H1 : (some false) = some r := by rw [if_neg (show ¬ (false = true) by decide)] at H; exact H
       clear H
       have H := H1
       clear H1
       obtain rfl := Option.some.inj H
       have p373 : 0 ≤ (x10_1 : Int) := od_
       have q373 : x10_1 < (l0_2.length : Int) := od_
       obtain ⟨ad373, A373_0, c373_0, e373, hx373_0, hl373_0, hi373_0⟩ := at_L2 HR0_2.out x10_1 p373 q373
       cases e373
       replace hx373_0 := (HB.out.cell (World.block_lt_of_cell? w _ hx373_0)).trans hx373_0
       have HR373_0 := Aside0.mk hi373_0
       have HC373_0 := Aside0.mk hl373_0
       clear hi373_0 hl373_0
       replace p373 := eq_true p373
       replace q373 := eq_true q373
       go_wp2_with (first | ((with_reducible refine gate_callee (f := 34) rfl ?_); refine goesL_ (some 15) rfl rfl Tryz.func34 (by kernel_rfl) rfl #[.slice A373_0 (rd_L2 l0_2 x10_1).length c373_0] rfl ga_ ?_; (with_reducible refine (impl_isOrder.calls k1 _ _ (rd_L2 l0_2 x10_1) false _ ?side1 ?side2 A7.out).mono ?_); (case side1 => repeat (first | exact (Kd.C_below HR373_0.out HB.out) | (with_reducible refine Kd.C_alloc ?_ _) | (with_reducible refine Kd.C_drewN ?_ _) | (with_reducible refine Kd.C_drew ?_))); (case side2 => exact HC373_0.out); rintro e w' ⟨rfl, ⟨nd, rfl⟩⟩; refine ⟨_, rfl, ?_⟩))
       go_ret
       exact ⟨re_, bl_⟩
     ·rw [if_neg c6] at H
      exact absurd H (by simp)
    ·rw [if_neg c5] at H
     exact absurd H (by simp)
   ·rw [if_neg c4] at H
    have c4b0 : decide (x10_1 < (l0_2.length : Int)) = false := decide_eq_false c4
    clear c4
    have H' := Aside0.mk H
    clear H
    have hcz9_0 : wr.cell? ⟨gb372, 0, none⟩ = some (.bool a0_0) := (blk_cell BK372.out 0).trans rfl
    have hcz9_1 : wr.cell? ⟨gb372, 1, none⟩ = some (.bool a0_1) := (blk_cell BK372.out 1).trans rfl
    have hcz9_2 : wr.cell? ⟨gb372, 2, none⟩ = some (.slice A0_2 l0_2.length c0_2) := (blk_cell BK372.out 2).trans rfl
    have hcz9_3 : wr.cell? ⟨gb372, 3, none⟩ = some (.slice A0_3 l0_3.length c0_3) := (blk_cell BK372.out 3).trans rfl
    have hcz9_4 : wr.cell? ⟨gb372, 4, none⟩ = some (.bool a0_4) := (blk_cell BK372.out 4).trans rfl
    have hcz9_5 : wr.cell? ⟨gb372, 5, none⟩ = some (.slice A0_5 l0_5.length c0_5) := (blk_cell BK372.out 5).trans rfl
    have hfz9_0 := blk_frozen BK372.out 0
    have hfz9_1 := blk_frozen BK372.out 1
    have hfz9_2 := blk_frozen BK372.out 2
    have hfz9_3 := blk_frozen BK372.out 3
    have hfz9_4 := blk_frozen BK372.out 4
    have hfz9_5 := blk_frozen BK372.out 5
    go_wp2
    go_loopg [21] k1 (fun kq v21 w' => ∃ (x21_2 : Int), v21 = .int .i64 x21_2 ∧ Aside0 (impl_clientOk.l1 kq l0_3 (l0_3.length : Int) x21_2 a0_0 a0_1 l0_2 l0_3 a0_4 l0_5 = some r) ∧ Aside0 (kq ≤ k1) ∧ Aside0 (w'.heap[gb372]? = some (.cells #[.bool a0_0, .bool a0_1, (.slice A0_2 l0_2.length c0_2), (.slice A0_3 l0_3.length c0_3), .bool a0_4, (.slice A0_5 l0_5.length c0_5)] 57 (0, 0))) ∧ Aside0 (Below w.heap.size w w'))
    case atStart => exact ⟨(0), rs_, H', ⟨Nat.le_refl _⟩, ⟨bk_ BK372.out⟩, ⟨bl_⟩⟩
    case round =>
     clear H'
     try clear c2
     try clear p2
     try clear c3
     try clear p3
     try clear q3
     try clear hx3
     try clear c4
     try clear c4b0
     try clear c5
     try clear c5b0
     try clear c6
     try clear c6b0
     try clear p6
     try clear c8
     try clear hcz3_0
     try clear hcz3_1
     try clear hcz3_2
     try clear hcz3_3
     try clear hcz3_4
     try clear hcz3_5
     try clear hcz9_0
     try clear hcz9_1
     try clear hcz9_2
     try clear hcz9_3
     try clear hcz9_4
     try clear hcz9_5
     try clear hfz3_0
     try clear hfz3_1
     try clear hfz3_2
     try clear hfz3_3
     try clear hfz3_4
     try clear hfz3_5
     try clear hfz9_0
     try clear hfz9_1
     try clear hfz9_2
     try clear hfz9_3
     try clear hfz9_4
     try clear hfz9_5
     try clear hx373_0
     try clear p2
     try clear p373
     try clear q373
     obtain ⟨x21_2, rfl, HA, HK2, BK372, HB⟩ := hrel
     cases gk with
     | zero => exact absurd HA.out (by simp [impl_clientOk.l1])
     | succ k2 =>
      have H := HA.out
      clear HA
      simp only [impl_clientOk.l1] at H
      by_cases c10 : x21_2 < (l0_3.length : Int)
      ·rw [if_pos c10] at H
       have c10b0 : decide (x21_2 < (l0_3.length : Int)) = true := decide_eq_true c10
       clear c10
       by_cases c11 : 0 ≤ x21_2
       ·rw [if_pos c11] at H
        have c11b0 : decide (0 ≤ x21_2) = true := decide_eq_true c11
        clear c11
        by_cases c12 : x21_2 < (l0_3.length : Int)
        ·rw [if_pos c12] at H
         have c12b0 : decide (x21_2 < (l0_3.length : Int)) = true := decide_eq_true c12
         clear c12
         replace H := Option.bind_eq_some_iff.mp H
         obtain ⟨t376, A130, H⟩ := H
         replace H : (if t376 = true then (if x21_2 > 0 then (if 0 ≤ (wrap64 (x21_2 - 1)) then (if (wrap64 (x21_2 - 1)) < (l0_3.length : Int) then (if ((Op.bytesLess ((rdOf ByteArray.empty l0_3 (wrap64 (x21_2 - 1))).toList) ((rdOf ByteArray.empty l0_3 x21_2).toList)) = true) then (impl_clientOk.l1 k2 l0_3 (l0_3.length : Int) (wrap64 (x21_2 + 1)) a0_0 a0_1 l0_2 l0_3 a0_4 l0_5) else (some false)) else (none)) else (none)) else (impl_clientOk.l1 k2 l0_3 (l0_3.length : Int) (wrap64 (x21_2 + 1)) a0_0 a0_1 l0_2 l0_3 a0_4 l0_5)) else (some false)) = some r := H
         have A13 := Aside0.mk A130
         clear A130
         by_cases c14 : t376 = true
         ·subst c14
          have H1 : (if x21_2 > 0 then (if 0 ≤ (wrap64 (x21_2 - 1)) then (if (wrap64 (x21_2 - 1)) < (l0_3.length : Int) then (if ((Op.bytesLess ((rdOf ByteArray.empty l0_3 (wrap64 (x21_2 - 1))).toList) ((rdOf ByteArray.empty l0_3 x21_2).toList)) = true) then (impl_clientOk.l1 k2 l0_3 (l0_3.length : Int) (wrap64 (x21_2 + 1)) a0_0 a0_1 l0_2 l0_3 a0_4 l0_5) else (some false)) else (none)) else (none)) else (impl_clientOk.l1 k2 l0_3 (l0_3.length : Int) (wrap64 (x21_2 + 1)) a0_0 a0_1 l0_2 l0_3 a0_4 l0_5)) = some r := by rw [if_pos rfl] at H; exact H
          clear H
          have H := H1
          clear H1
          by_cases c15 : x21_2 > 0
          ·rw [if_pos c15] at H
           have c15b0 : decide (0 < x21_2) = true := decide_eq_true c15
           clear c15
           obtain ⟨ji16, hji16⟩ : ∃ j_ : Int, (wrap64 (x21_2 - 1)) = j_ := ⟨_, rfl⟩
           replace H : (if 0 ≤ (ji16) then (if (ji16) < (l0_3.length : Int) then (if ((Op.bytesLess ((rdOf ByteArray.empty l0_3 (ji16)).toList) ((rdOf ByteArray.empty l0_3 x21_2).toList)) = true) then (impl_clientOk.l1 k2 l0_3 (l0_3.length : Int) (wrap64 (x21_2 + 1)) a0_0 a0_1 l0_2 l0_3 a0_4 l0_5) else (some false)) else (none)) else (none)) = some r := by first | (rw [hji16] at H; exact H) | (simp only [hji16] at H ⊢; exact H)
           (try rw [hji16] at A13)
           have hji16w : (IntKind.i64.wrap (x21_2 - 1)) = ji16 := (i64_w _).trans hji16
           by_cases c17 : 0 ≤ (ji16)
           ·rw [if_pos c17] at H
            have c17b0 : decide (0 ≤ (ji16)) = true := decide_eq_true c17
            clear c17
            by_cases c18 : (ji16) < (l0_3.length : Int)
            ·rw [if_pos c18] at H
             have c18b0 : decide ((ji16) < (l0_3.length : Int)) = true := decide_eq_true c18
             clear c18
             by_cases c19 : ((Op.bytesLess ((rdOf ByteArray.empty l0_3 (ji16)).toList) ((rdOf ByteArray.empty l0_3 x21_2).toList)) = true)
             ·rw [if_pos c19] at H
              have c19b0 : (Op.bytesLess ((rdOf ByteArray.empty l0_3 (ji16)).toList) ((rdOf ByteArray.empty l0_3 x21_2).toList)) = true := c19
              clear c19
              have H' := Aside0.mk H
              clear H
              have p375 : 0 ≤ (x21_2 : Int) := od_
              have q375 : x21_2 < (l0_3.length : Int) := od_
              obtain ⟨ad375, e375, hx375_0⟩ := Kd.at_string HR0_3.out x21_2 p375 q375
              cases e375
              replace hx375_0 := (HB.out.cell (World.block_lt_of_cell? w _ hx375_0)).trans hx375_0
              replace p375 := eq_true p375
              replace q375 := eq_true q375
              go_wp2_with (first | ((with_reducible refine gate_callee (f := 35) rfl ?_); refine goesL_ (some 27) rfl rfl Tryz.func35 (by kernel_rfl) rfl #[.string (rdOf ByteArray.empty l0_3 x21_2)] rfl ga_ ?_; (with_reducible refine (impl_keyOk.calls (rdOf ByteArray.empty l0_3 x21_2) true _ A13.out).mono ?_); rintro e w' ⟨rfl, ⟨nd, rfl⟩⟩; refine ⟨_, rfl, ?_⟩; have hcz20_0 : wr.cell? ⟨gb372, 0, none⟩ = some (.bool a0_0) := (blk_cell BK372.out 0).trans rfl; have hcz20_1 : wr.cell? ⟨gb372, 1, none⟩ = some (.bool a0_1) := (blk_cell BK372.out 1).trans rfl; have hcz20_2 : wr.cell? ⟨gb372, 2, none⟩ = some (.slice A0_2 l0_2.length c0_2) := (blk_cell BK372.out 2).trans rfl; have hcz20_3 : wr.cell? ⟨gb372, 3, none⟩ = some (.slice (some ad375) l0_3.length c0_3) := (blk_cell BK372.out 3).trans rfl; have hcz20_4 : wr.cell? ⟨gb372, 4, none⟩ = some (.bool a0_4) := (blk_cell BK372.out 4).trans rfl; have hcz20_5 : wr.cell? ⟨gb372, 5, none⟩ = some (.slice A0_5 l0_5.length c0_5) := (blk_cell BK372.out 5).trans rfl; have hfz20_0 := blk_frozen BK372.out 0; have hfz20_1 := blk_frozen BK372.out 1; have hfz20_2 := blk_frozen BK372.out 2; have hfz20_3 := blk_frozen BK372.out 3; have hfz20_4 := blk_frozen BK372.out 4; have hfz20_5 := blk_frozen BK372.out 5; have p377 : 0 ≤ ((ji16) : Int) := od_; have q377 : (ji16) < (l0_3.length : Int) := od_; obtain ⟨ad377, e377, hx377_0⟩ := Kd.at_string HR0_3.out (ji16) p377 q377; obtain rfl : ad375 = ad377 := (by injection e377); replace hx377_0 := (HB.out.cell (World.block_lt_of_cell? w _ hx377_0)).trans hx377_0; replace p377 := eq_true p377; replace q377 := eq_true q377))
              go_roundg k2
              case measure => have := HK1.out; have := HK2.out; omega
              case rel => exact ⟨(wrap64 (x21_2 + 1)), rs_, H', ⟨by have := HK1.out; have := HK2.out; omega⟩, ⟨bk_ BK372.out⟩, ⟨bl_⟩⟩
             ·rw [if_neg c19] at H
              have c19b0 : (Op.bytesLess ((rdOf ByteArray.empty l0_3 (ji16)).toList) ((rdOf ByteArray.empty l0_3 x21_2).toList)) = false := by simpa using c19
              clear c19
              obtain rfl := Option.some.inj H
              have p375 : 0 ≤ (x21_2 : Int) := od_
              have q375 : x21_2 < (l0_3.length : Int) := od_
              obtain ⟨ad375, e375, hx375_0⟩ := Kd.at_string HR0_3.out x21_2 p375 q375
              cases e375
              replace hx375_0 := (HB.out.cell (World.block_lt_of_cell? w _ hx375_0)).trans hx375_0
              replace p375 := eq_true p375
              replace q375 := eq_true q375
              go_wp2_with (first | ((with_reducible refine gate_callee (f := 35) rfl ?_); refine goesL_ (some 27) rfl rfl Tryz.func35 (by kernel_rfl) rfl #[.string (rdOf ByteArray.empty l0_3 x21_2)] rfl ga_ ?_; (with_reducible refine (impl_keyOk.calls (rdOf ByteArray.empty l0_3 x21_2) true _ A13.out).mono ?_); rintro e w' ⟨rfl, ⟨nd, rfl⟩⟩; refine ⟨_, rfl, ?_⟩; have hcz21_0 : wr.cell? ⟨gb372, 0, none⟩ = some (.bool a0_0) := (blk_cell BK372.out 0).trans rfl; have hcz21_1 : wr.cell? ⟨gb372, 1, none⟩ = some (.bool a0_1) := (blk_cell BK372.out 1).trans rfl; have hcz21_2 : wr.cell? ⟨gb372, 2, none⟩ = some (.slice A0_2 l0_2.length c0_2) := (blk_cell BK372.out 2).trans rfl; have hcz21_3 : wr.cell? ⟨gb372, 3, none⟩ = some (.slice (some ad375) l0_3.length c0_3) := (blk_cell BK372.out 3).trans rfl; have hcz21_4 : wr.cell? ⟨gb372, 4, none⟩ = some (.bool a0_4) := (blk_cell BK372.out 4).trans rfl; have hcz21_5 : wr.cell? ⟨gb372, 5, none⟩ = some (.slice A0_5 l0_5.length c0_5) := (blk_cell BK372.out 5).trans rfl; have hfz21_0 := blk_frozen BK372.out 0; have hfz21_1 := blk_frozen BK372.out 1; have hfz21_2 := blk_frozen BK372.out 2; have hfz21_3 := blk_frozen BK372.out 3; have hfz21_4 := blk_frozen BK372.out 4; have hfz21_5 := blk_frozen BK372.out 5; have p377 : 0 ≤ ((ji16) : Int) := od_; have q377 : (ji16) < (l0_3.length : Int) := od_; obtain ⟨ad377, e377, hx377_0⟩ := Kd.at_string HR0_3.out (ji16) p377 q377; obtain rfl : ad375 = ad377 := (by injection e377); replace hx377_0 := (HB.out.cell (World.block_lt_of_cell? w _ hx377_0)).trans hx377_0; replace p377 := eq_true p377; replace q377 := eq_true q377))
              go_ret
              exact ⟨by first | rfl | (simp [errW_none, errW_some] <;> rfl) | (simp only [← hji16]; first | rfl | (simp [errW_none, errW_some] <;> rfl)) | (simp [*, errW_none, errW_some] <;> rfl), bl_⟩
            ·rw [if_neg c18] at H
             exact absurd H (by simp)
           ·rw [if_neg c17] at H
            exact absurd H (by simp)
          ·rw [if_neg c15] at H
           have c15b0 : decide (0 < x21_2) = false := decide_eq_false c15
           clear c15
           have H' := Aside0.mk H
           clear H
           have p375 : 0 ≤ (x21_2 : Int) := od_
           have q375 : x21_2 < (l0_3.length : Int) := od_
           obtain ⟨ad375, e375, hx375_0⟩ := Kd.at_string HR0_3.out x21_2 p375 q375
           cases e375
           replace hx375_0 := (HB.out.cell (World.block_lt_of_cell? w _ hx375_0)).trans hx375_0
           replace p375 := eq_true p375
           replace q375 := eq_true q375
           go_wp2_with (first | ((with_reducible refine gate_callee (f := 35) rfl ?_); refine goesL_ (some 27) rfl rfl Tryz.func35 (by kernel_rfl) rfl #[.string (rdOf ByteArray.empty l0_3 x21_2)] rfl ga_ ?_; (with_reducible refine (impl_keyOk.calls (rdOf ByteArray.empty l0_3 x21_2) true _ A13.out).mono ?_); rintro e w' ⟨rfl, ⟨nd, rfl⟩⟩; refine ⟨_, rfl, ?_⟩))
           go_roundg k2
           case measure => have := HK1.out; have := HK2.out; omega
           case rel => exact ⟨(wrap64 (x21_2 + 1)), rs_, H', ⟨by have := HK1.out; have := HK2.out; omega⟩, ⟨bk_ BK372.out⟩, ⟨bl_⟩⟩
         ·replace c14 := Bool.eq_false_iff.mpr c14
          subst c14
          have H1 : (some false) = some r := by rw [if_neg (show ¬ (false = true) by decide)] at H; exact H
          clear H
          have H := H1
          clear H1
          obtain rfl := Option.some.inj H
          have p375 : 0 ≤ (x21_2 : Int) := od_
          have q375 : x21_2 < (l0_3.length : Int) := od_
          obtain ⟨ad375, e375, hx375_0⟩ := Kd.at_string HR0_3.out x21_2 p375 q375
          cases e375
          replace hx375_0 := (HB.out.cell (World.block_lt_of_cell? w _ hx375_0)).trans hx375_0
          replace p375 := eq_true p375
          replace q375 := eq_true q375
          go_wp2_with (first | ((with_reducible refine gate_callee (f := 35) rfl ?_); refine goesL_ (some 27) rfl rfl Tryz.func35 (by kernel_rfl) rfl #[.string (rdOf ByteArray.empty l0_3 x21_2)] rfl ga_ ?_; (with_reducible refine (impl_keyOk.calls (rdOf ByteArray.empty l0_3 x21_2) false _ A13.out).mono ?_); rintro e w' ⟨rfl, ⟨nd, rfl⟩⟩; refine ⟨_, rfl, ?_⟩))
          go_ret
          exact ⟨re_, bl_⟩
        ·rw [if_neg c12] at H
         exact absurd H (by simp)
       ·rw [if_neg c11] at H
        exact absurd H (by simp)
      ·rw [if_neg c10] at H
       have c10b0 : decide (x21_2 < (l0_3.length : Int)) = false := decide_eq_false c10
       clear c10
       by_cases c22 : (l0_2.length : Int) > 6
       ·rw [if_pos c22] at H
        have c22b0 : decide (6 < (l0_2.length : Int)) = true := decide_eq_true c22
        have c22b1 : decide (6 < l0_2.length) = true := decide_eq_true (by omega)
        clear c22
        obtain rfl := Option.some.inj H
        have hcz23_0 : wr.cell? ⟨gb372, 0, none⟩ = some (.bool a0_0) := (blk_cell BK372.out 0).trans rfl
        have hcz23_1 : wr.cell? ⟨gb372, 1, none⟩ = some (.bool a0_1) := (blk_cell BK372.out 1).trans rfl
        have hcz23_2 : wr.cell? ⟨gb372, 2, none⟩ = some (.slice A0_2 l0_2.length c0_2) := (blk_cell BK372.out 2).trans rfl
        have hcz23_3 : wr.cell? ⟨gb372, 3, none⟩ = some (.slice A0_3 l0_3.length c0_3) := (blk_cell BK372.out 3).trans rfl
        have hcz23_4 : wr.cell? ⟨gb372, 4, none⟩ = some (.bool a0_4) := (blk_cell BK372.out 4).trans rfl
        have hcz23_5 : wr.cell? ⟨gb372, 5, none⟩ = some (.slice A0_5 l0_5.length c0_5) := (blk_cell BK372.out 5).trans rfl
        have hfz23_0 := blk_frozen BK372.out 0
        have hfz23_1 := blk_frozen BK372.out 1
        have hfz23_2 := blk_frozen BK372.out 2
        have hfz23_3 := blk_frozen BK372.out 3
        have hfz23_4 := blk_frozen BK372.out 4
        have hfz23_5 := blk_frozen BK372.out 5
        go_wp2
        go_ret
        exact ⟨re_, bl_⟩
       ·rw [if_neg c22] at H
        have c22b0 : decide (6 < (l0_2.length : Int)) = false := decide_eq_false c22
        have c22b1 : decide (6 < l0_2.length) = false := decide_eq_false (by omega)
        clear c22
        by_cases c24 : a0_0 = true
        ·subst c24
         have H1 : (if (l0_3.length : Int) ≤ 4 then (if a0_4 = true then (if (l0_3.length : Int) > 0 then ((impl_SetOk.f l0_5).bind fun t378 => (if t378 = true then (some (decide ((l0_5.length : Int) ≤ 4))) else (some false))) else (some false)) else ((impl_SetOk.f l0_5).bind fun t379 => (if t379 = true then (some (decide ((l0_5.length : Int) ≤ 4))) else (some false)))) else (some false)) = some r := by rw [if_pos rfl] at H; exact H
         clear H
         have H := H1
         clear H1
         by_cases c25 : (l0_3.length : Int) ≤ 4
         ·rw [if_pos c25] at H
          have c25b0 : decide ((l0_3.length : Int) ≤ 4) = true := decide_eq_true c25
          have c25b1 : decide (l0_3.length ≤ 4) = true := decide_eq_true (by omega)
          clear c25
          by_cases c26 : a0_4 = true
          ·subst c26
           have H1 : (if (l0_3.length : Int) > 0 then ((impl_SetOk.f l0_5).bind fun t378 => (if t378 = true then (some (decide ((l0_5.length : Int) ≤ 4))) else (some false))) else (some false)) = some r := by rw [if_pos rfl] at H; exact H
           clear H
           have H := H1
           clear H1
           by_cases c27 : (l0_3.length : Int) > 0
           ·rw [if_pos c27] at H
            have c27b0 : decide (0 < (l0_3.length : Int)) = true := decide_eq_true c27
            have c27b1 : decide (0 < l0_3.length) = true := decide_eq_true (by omega)
            clear c27
            replace H := Option.bind_eq_some_iff.mp H
            obtain ⟨t378, A280, H⟩ := H
            replace H : (if t378 = true then (some (decide ((l0_5.length : Int) ≤ 4))) else (some false)) = some r := H
            have A28 := Aside0.mk A280
            clear A280
            by_cases c29 : t378 = true
            ·subst c29
             have H1 : (some (decide ((l0_5.length : Int) ≤ 4))) = some r := by rw [if_pos rfl] at H; exact H
             clear H
             have H := H1
             clear H1
             obtain rfl := Option.some.inj H
             have hcz30_0 : wr.cell? ⟨gb372, 0, none⟩ = some (.bool true) := (blk_cell BK372.out 0).trans rfl
             have hcz30_1 : wr.cell? ⟨gb372, 1, none⟩ = some (.bool a0_1) := (blk_cell BK372.out 1).trans rfl
             have hcz30_2 : wr.cell? ⟨gb372, 2, none⟩ = some (.slice A0_2 l0_2.length c0_2) := (blk_cell BK372.out 2).trans rfl
             have hcz30_3 : wr.cell? ⟨gb372, 3, none⟩ = some (.slice A0_3 l0_3.length c0_3) := (blk_cell BK372.out 3).trans rfl
             have hcz30_4 : wr.cell? ⟨gb372, 4, none⟩ = some (.bool true) := (blk_cell BK372.out 4).trans rfl
             have hcz30_5 : wr.cell? ⟨gb372, 5, none⟩ = some (.slice A0_5 l0_5.length c0_5) := (blk_cell BK372.out 5).trans rfl
             have hfz30_0 := blk_frozen BK372.out 0
             have hfz30_1 := blk_frozen BK372.out 1
             have hfz30_2 := blk_frozen BK372.out 2
             have hfz30_3 := blk_frozen BK372.out 3
             have hfz30_4 := blk_frozen BK372.out 4
             have hfz30_5 := blk_frozen BK372.out 5
             go_wp2_with (first | (go_at_call 36; (with_reducible refine (impl_SetOk.calls _ _ l0_5 true _ ?side1 ?side2 A28.out).mono ?_); (case side1 => repeat (first | exact (Kd.C_below HR0_5.out HB.out) | (with_reducible refine Kd.C_alloc ?_ _) | (with_reducible refine Kd.C_drewN ?_ _) | (with_reducible refine Kd.C_drew ?_))); (case side2 => exact HC0_5.out); rintro e w31 ⟨rfl, hb⟩; have n0_ := Aside0.mk (blk_below (g := gb372) (o := .cells #[.bool true, .bool a0_1, .slice A0_2 l0_2.length c0_2, .slice A0_3 l0_3.length c0_3, .bool true, .slice A0_5 l0_5.length c0_5] 57 (0, 0)) (bk_ BK372.out) hb); have n1_ := Aside0.mk (below_step bl_ hb); clear BK372; clear HB; have BK372 := n0_; have HB := n1_; clear n0_ n1_; (try clear hb); (try clear hb2); (try clear hk); (try clear hi); have hcz32_0 : w31.cell? ⟨gb372, 0, none⟩ = some (.bool true) := (blk_cell BK372.out 0).trans rfl; have hcz32_1 : w31.cell? ⟨gb372, 1, none⟩ = some (.bool a0_1) := (blk_cell BK372.out 1).trans rfl; have hcz32_2 : w31.cell? ⟨gb372, 2, none⟩ = some (.slice A0_2 l0_2.length c0_2) := (blk_cell BK372.out 2).trans rfl; have hcz32_3 : w31.cell? ⟨gb372, 3, none⟩ = some (.slice A0_3 l0_3.length c0_3) := (blk_cell BK372.out 3).trans rfl; have hcz32_4 : w31.cell? ⟨gb372, 4, none⟩ = some (.bool true) := (blk_cell BK372.out 4).trans rfl; have hcz32_5 : w31.cell? ⟨gb372, 5, none⟩ = some (.slice A0_5 l0_5.length c0_5) := (blk_cell BK372.out 5).trans rfl; have hfz32_0 := blk_frozen BK372.out 0; have hfz32_1 := blk_frozen BK372.out 1; have hfz32_2 := blk_frozen BK372.out 2; have hfz32_3 := blk_frozen BK372.out 3; have hfz32_4 := blk_frozen BK372.out 4; have hfz32_5 := blk_frozen BK372.out 5))
             go_ret
             exact ⟨re_, bl_⟩
            ·replace c29 := Bool.eq_false_iff.mpr c29
             subst c29
             have H1 : (some false) = some r := by rw [if_neg (show ¬ (false = true) by decide)] at H; exact H
             clear H
             have H := H1
             clear H1
             obtain rfl := Option.some.inj H
             have hcz33_0 : wr.cell? ⟨gb372, 0, none⟩ = some (.bool true) := (blk_cell BK372.out 0).trans rfl
             have hcz33_1 : wr.cell? ⟨gb372, 1, none⟩ = some (.bool a0_1) := (blk_cell BK372.out 1).trans rfl
             have hcz33_2 : wr.cell? ⟨gb372, 2, none⟩ = some (.slice A0_2 l0_2.length c0_2) := (blk_cell BK372.out 2).trans rfl
             have hcz33_3 : wr.cell? ⟨gb372, 3, none⟩ = some (.slice A0_3 l0_3.length c0_3) := (blk_cell BK372.out 3).trans rfl
             have hcz33_4 : wr.cell? ⟨gb372, 4, none⟩ = some (.bool true) := (blk_cell BK372.out 4).trans rfl
             have hcz33_5 : wr.cell? ⟨gb372, 5, none⟩ = some (.slice A0_5 l0_5.length c0_5) := (blk_cell BK372.out 5).trans rfl
             have hfz33_0 := blk_frozen BK372.out 0
             have hfz33_1 := blk_frozen BK372.out 1
             have hfz33_2 := blk_frozen BK372.out 2
             have hfz33_3 := blk_frozen BK372.out 3
             have hfz33_4 := blk_frozen BK372.out 4
             have hfz33_5 := blk_frozen BK372.out 5
             go_wp2_with (first | (go_at_call 36; (with_reducible refine (impl_SetOk.calls _ _ l0_5 false _ ?side1 ?side2 A28.out).mono ?_); (case side1 => repeat (first | exact (Kd.C_below HR0_5.out HB.out) | (with_reducible refine Kd.C_alloc ?_ _) | (with_reducible refine Kd.C_drewN ?_ _) | (with_reducible refine Kd.C_drew ?_))); (case side2 => exact HC0_5.out); rintro e w34 ⟨rfl, hb⟩; have n0_ := Aside0.mk (blk_below (g := gb372) (o := .cells #[.bool true, .bool a0_1, .slice A0_2 l0_2.length c0_2, .slice A0_3 l0_3.length c0_3, .bool true, .slice A0_5 l0_5.length c0_5] 57 (0, 0)) (bk_ BK372.out) hb); have n1_ := Aside0.mk (below_step bl_ hb); clear BK372; clear HB; have BK372 := n0_; have HB := n1_; clear n0_ n1_; (try clear hb); (try clear hb2); (try clear hk); (try clear hi)))
             go_ret
             exact ⟨re_, bl_⟩
           ·rw [if_neg c27] at H
            have c27b0 : decide (0 < (l0_3.length : Int)) = false := decide_eq_false c27
            have c27b1 : decide (0 < l0_3.length) = false := decide_eq_false (by omega)
            clear c27
            obtain rfl := Option.some.inj H
            have hcz35_0 : wr.cell? ⟨gb372, 0, none⟩ = some (.bool true) := (blk_cell BK372.out 0).trans rfl
            have hcz35_1 : wr.cell? ⟨gb372, 1, none⟩ = some (.bool a0_1) := (blk_cell BK372.out 1).trans rfl
            have hcz35_2 : wr.cell? ⟨gb372, 2, none⟩ = some (.slice A0_2 l0_2.length c0_2) := (blk_cell BK372.out 2).trans rfl
            have hcz35_3 : wr.cell? ⟨gb372, 3, none⟩ = some (.slice A0_3 l0_3.length c0_3) := (blk_cell BK372.out 3).trans rfl
            have hcz35_4 : wr.cell? ⟨gb372, 4, none⟩ = some (.bool true) := (blk_cell BK372.out 4).trans rfl
            have hcz35_5 : wr.cell? ⟨gb372, 5, none⟩ = some (.slice A0_5 l0_5.length c0_5) := (blk_cell BK372.out 5).trans rfl
            have hfz35_0 := blk_frozen BK372.out 0
            have hfz35_1 := blk_frozen BK372.out 1
            have hfz35_2 := blk_frozen BK372.out 2
            have hfz35_3 := blk_frozen BK372.out 3
            have hfz35_4 := blk_frozen BK372.out 4
            have hfz35_5 := blk_frozen BK372.out 5
            go_wp2
            go_ret
            exact ⟨re_, bl_⟩
          ·replace c26 := Bool.eq_false_iff.mpr c26
           subst c26
           have H1 : ((impl_SetOk.f l0_5).bind fun t379 => (if t379 = true then (some (decide ((l0_5.length : Int) ≤ 4))) else (some false))) = some r := by rw [if_neg (show ¬ (false = true) by decide)] at H; exact H
           clear H
           have H := H1
           clear H1
           replace H := Option.bind_eq_some_iff.mp H
           obtain ⟨t379, A360, H⟩ := H
           replace H : (if t379 = true then (some (decide ((l0_5.length : Int) ≤ 4))) else (some false)) = some r := H
           have A36 := Aside0.mk A360
           clear A360
           by_cases c37 : t379 = true
           ·subst c37
            have H1 : (some (decide ((l0_5.length : Int) ≤ 4))) = some r := by rw [if_pos rfl] at H; exact H
            clear H
            have H := H1
            clear H1
            obtain rfl := Option.some.inj H
            have hcz38_0 : wr.cell? ⟨gb372, 0, none⟩ = some (.bool true) := (blk_cell BK372.out 0).trans rfl
            have hcz38_1 : wr.cell? ⟨gb372, 1, none⟩ = some (.bool a0_1) := (blk_cell BK372.out 1).trans rfl
            have hcz38_2 : wr.cell? ⟨gb372, 2, none⟩ = some (.slice A0_2 l0_2.length c0_2) := (blk_cell BK372.out 2).trans rfl
            have hcz38_3 : wr.cell? ⟨gb372, 3, none⟩ = some (.slice A0_3 l0_3.length c0_3) := (blk_cell BK372.out 3).trans rfl
            have hcz38_4 : wr.cell? ⟨gb372, 4, none⟩ = some (.bool false) := (blk_cell BK372.out 4).trans rfl
            have hcz38_5 : wr.cell? ⟨gb372, 5, none⟩ = some (.slice A0_5 l0_5.length c0_5) := (blk_cell BK372.out 5).trans rfl
            have hfz38_0 := blk_frozen BK372.out 0
            have hfz38_1 := blk_frozen BK372.out 1
            have hfz38_2 := blk_frozen BK372.out 2
            have hfz38_3 := blk_frozen BK372.out 3
            have hfz38_4 := blk_frozen BK372.out 4
            have hfz38_5 := blk_frozen BK372.out 5
            go_wp2_with (first | (go_at_call 36; (with_reducible refine (impl_SetOk.calls _ _ l0_5 true _ ?side1 ?side2 A36.out).mono ?_); (case side1 => repeat (first | exact (Kd.C_below HR0_5.out HB.out) | (with_reducible refine Kd.C_alloc ?_ _) | (with_reducible refine Kd.C_drewN ?_ _) | (with_reducible refine Kd.C_drew ?_))); (case side2 => exact HC0_5.out); rintro e w39 ⟨rfl, hb⟩; have n0_ := Aside0.mk (blk_below (g := gb372) (o := .cells #[.bool true, .bool a0_1, .slice A0_2 l0_2.length c0_2, .slice A0_3 l0_3.length c0_3, .bool false, .slice A0_5 l0_5.length c0_5] 57 (0, 0)) (bk_ BK372.out) hb); have n1_ := Aside0.mk (below_step bl_ hb); clear BK372; clear HB; have BK372 := n0_; have HB := n1_; clear n0_ n1_; (try clear hb); (try clear hb2); (try clear hk); (try clear hi); have hcz40_0 : w39.cell? ⟨gb372, 0, none⟩ = some (.bool true) := (blk_cell BK372.out 0).trans rfl; have hcz40_1 : w39.cell? ⟨gb372, 1, none⟩ = some (.bool a0_1) := (blk_cell BK372.out 1).trans rfl; have hcz40_2 : w39.cell? ⟨gb372, 2, none⟩ = some (.slice A0_2 l0_2.length c0_2) := (blk_cell BK372.out 2).trans rfl; have hcz40_3 : w39.cell? ⟨gb372, 3, none⟩ = some (.slice A0_3 l0_3.length c0_3) := (blk_cell BK372.out 3).trans rfl; have hcz40_4 : w39.cell? ⟨gb372, 4, none⟩ = some (.bool false) := (blk_cell BK372.out 4).trans rfl; have hcz40_5 : w39.cell? ⟨gb372, 5, none⟩ = some (.slice A0_5 l0_5.length c0_5) := (blk_cell BK372.out 5).trans rfl; have hfz40_0 := blk_frozen BK372.out 0; have hfz40_1 := blk_frozen BK372.out 1; have hfz40_2 := blk_frozen BK372.out 2; have hfz40_3 := blk_frozen BK372.out 3; have hfz40_4 := blk_frozen BK372.out 4; have hfz40_5 := blk_frozen BK372.out 5))
            go_ret
            exact ⟨re_, bl_⟩
           ·replace c37 := Bool.eq_false_iff.mpr c37
            subst c37
            have H1 : (some false) = some r := by rw [if_neg (show ¬ (false = true) by decide)] at H; exact H
            clear H
            have H := H1
            clear H1
            obtain rfl := Option.some.inj H
            have hcz41_0 : wr.cell? ⟨gb372, 0, none⟩ = some (.bool true) := (blk_cell BK372.out 0).trans rfl
            have hcz41_1 : wr.cell? ⟨gb372, 1, none⟩ = some (.bool a0_1) := (blk_cell BK372.out 1).trans rfl
            have hcz41_2 : wr.cell? ⟨gb372, 2, none⟩ = some (.slice A0_2 l0_2.length c0_2) := (blk_cell BK372.out 2).trans rfl
            have hcz41_3 : wr.cell? ⟨gb372, 3, none⟩ = some (.slice A0_3 l0_3.length c0_3) := (blk_cell BK372.out 3).trans rfl
            have hcz41_4 : wr.cell? ⟨gb372, 4, none⟩ = some (.bool false) := (blk_cell BK372.out 4).trans rfl
            have hcz41_5 : wr.cell? ⟨gb372, 5, none⟩ = some (.slice A0_5 l0_5.length c0_5) := (blk_cell BK372.out 5).trans rfl
            have hfz41_0 := blk_frozen BK372.out 0
            have hfz41_1 := blk_frozen BK372.out 1
            have hfz41_2 := blk_frozen BK372.out 2
            have hfz41_3 := blk_frozen BK372.out 3
            have hfz41_4 := blk_frozen BK372.out 4
            have hfz41_5 := blk_frozen BK372.out 5
            go_wp2_with (first | (go_at_call 36; (with_reducible refine (impl_SetOk.calls _ _ l0_5 false _ ?side1 ?side2 A36.out).mono ?_); (case side1 => repeat (first | exact (Kd.C_below HR0_5.out HB.out) | (with_reducible refine Kd.C_alloc ?_ _) | (with_reducible refine Kd.C_drewN ?_ _) | (with_reducible refine Kd.C_drew ?_))); (case side2 => exact HC0_5.out); rintro e w42 ⟨rfl, hb⟩; have n0_ := Aside0.mk (blk_below (g := gb372) (o := .cells #[.bool true, .bool a0_1, .slice A0_2 l0_2.length c0_2, .slice A0_3 l0_3.length c0_3, .bool false, .slice A0_5 l0_5.length c0_5] 57 (0, 0)) (bk_ BK372.out) hb); have n1_ := Aside0.mk (below_step bl_ hb); clear BK372; clear HB; have BK372 := n0_; have HB := n1_; clear n0_ n1_; (try clear hb); (try clear hb2); (try clear hk); (try clear hi)))
            go_ret
            exact ⟨re_, bl_⟩
         ·rw [if_neg c25] at H
          have c25b0 : decide ((l0_3.length : Int) ≤ 4) = false := decide_eq_false c25
          have c25b1 : decide (l0_3.length ≤ 4) = false := decide_eq_false (by omega)
          clear c25
          obtain rfl := Option.some.inj H
          have hcz43_0 : wr.cell? ⟨gb372, 0, none⟩ = some (.bool true) := (blk_cell BK372.out 0).trans rfl
          have hcz43_1 : wr.cell? ⟨gb372, 1, none⟩ = some (.bool a0_1) := (blk_cell BK372.out 1).trans rfl
          have hcz43_2 : wr.cell? ⟨gb372, 2, none⟩ = some (.slice A0_2 l0_2.length c0_2) := (blk_cell BK372.out 2).trans rfl
          have hcz43_3 : wr.cell? ⟨gb372, 3, none⟩ = some (.slice A0_3 l0_3.length c0_3) := (blk_cell BK372.out 3).trans rfl
          have hcz43_4 : wr.cell? ⟨gb372, 4, none⟩ = some (.bool a0_4) := (blk_cell BK372.out 4).trans rfl
          have hcz43_5 : wr.cell? ⟨gb372, 5, none⟩ = some (.slice A0_5 l0_5.length c0_5) := (blk_cell BK372.out 5).trans rfl
          have hfz43_0 := blk_frozen BK372.out 0
          have hfz43_1 := blk_frozen BK372.out 1
          have hfz43_2 := blk_frozen BK372.out 2
          have hfz43_3 := blk_frozen BK372.out 3
          have hfz43_4 := blk_frozen BK372.out 4
          have hfz43_5 := blk_frozen BK372.out 5
          go_wp2
          go_ret
          exact ⟨re_, bl_⟩
        ·replace c24 := Bool.eq_false_iff.mpr c24
         subst c24
         have H1 : (if a0_1 = true then (some false) else (if (l0_2.length : Int) > 0 then (some false) else (if (l0_3.length : Int) ≤ 4 then (if a0_4 = true then (if (l0_3.length : Int) > 0 then ((impl_SetOk.f l0_5).bind fun t380 => (if t380 = true then (some (decide ((l0_5.length : Int) ≤ 4))) else (some false))) else (some false)) else ((impl_SetOk.f l0_5).bind fun t381 => (if t381 = true then (some (decide ((l0_5.length : Int) ≤ 4))) else (some false)))) else (some false)))) = some r := by rw [if_neg (show ¬ (false = true) by decide)] at H; exact H
         clear H
         have H := H1
         clear H1
         by_cases c44 : a0_1 = true
         ·subst c44
          have H1 : (some false) = some r := by rw [if_pos rfl] at H; exact H
          clear H
          have H := H1
          clear H1
          obtain rfl := Option.some.inj H
          have hcz45_0 : wr.cell? ⟨gb372, 0, none⟩ = some (.bool false) := (blk_cell BK372.out 0).trans rfl
          have hcz45_1 : wr.cell? ⟨gb372, 1, none⟩ = some (.bool true) := (blk_cell BK372.out 1).trans rfl
          have hcz45_2 : wr.cell? ⟨gb372, 2, none⟩ = some (.slice A0_2 l0_2.length c0_2) := (blk_cell BK372.out 2).trans rfl
          have hcz45_3 : wr.cell? ⟨gb372, 3, none⟩ = some (.slice A0_3 l0_3.length c0_3) := (blk_cell BK372.out 3).trans rfl
          have hcz45_4 : wr.cell? ⟨gb372, 4, none⟩ = some (.bool a0_4) := (blk_cell BK372.out 4).trans rfl
          have hcz45_5 : wr.cell? ⟨gb372, 5, none⟩ = some (.slice A0_5 l0_5.length c0_5) := (blk_cell BK372.out 5).trans rfl
          have hfz45_0 := blk_frozen BK372.out 0
          have hfz45_1 := blk_frozen BK372.out 1
          have hfz45_2 := blk_frozen BK372.out 2
          have hfz45_3 := blk_frozen BK372.out 3
          have hfz45_4 := blk_frozen BK372.out 4
          have hfz45_5 := blk_frozen BK372.out 5
          go_wp2
          go_ret
          exact ⟨re_, bl_⟩
         ·replace c44 := Bool.eq_false_iff.mpr c44
          subst c44
          have H1 : (if (l0_2.length : Int) > 0 then (some false) else (if (l0_3.length : Int) ≤ 4 then (if a0_4 = true then (if (l0_3.length : Int) > 0 then ((impl_SetOk.f l0_5).bind fun t380 => (if t380 = true then (some (decide ((l0_5.length : Int) ≤ 4))) else (some false))) else (some false)) else ((impl_SetOk.f l0_5).bind fun t381 => (if t381 = true then (some (decide ((l0_5.length : Int) ≤ 4))) else (some false)))) else (some false))) = some r := by rw [if_neg (show ¬ (false = true) by decide)] at H; exact H
          clear H
          have H := H1
          clear H1
          by_cases c46 : (l0_2.length : Int) > 0
          ·rw [if_pos c46] at H
           have c46b0 : decide (0 < (l0_2.length : Int)) = true := decide_eq_true c46
           have c46b1 : decide (0 < l0_2.length) = true := decide_eq_true (by omega)
           clear c46
           obtain rfl := Option.some.inj H
           have hcz47_0 : wr.cell? ⟨gb372, 0, none⟩ = some (.bool false) := (blk_cell BK372.out 0).trans rfl
           have hcz47_1 : wr.cell? ⟨gb372, 1, none⟩ = some (.bool false) := (blk_cell BK372.out 1).trans rfl
           have hcz47_2 : wr.cell? ⟨gb372, 2, none⟩ = some (.slice A0_2 l0_2.length c0_2) := (blk_cell BK372.out 2).trans rfl
           have hcz47_3 : wr.cell? ⟨gb372, 3, none⟩ = some (.slice A0_3 l0_3.length c0_3) := (blk_cell BK372.out 3).trans rfl
           have hcz47_4 : wr.cell? ⟨gb372, 4, none⟩ = some (.bool a0_4) := (blk_cell BK372.out 4).trans rfl
           have hcz47_5 : wr.cell? ⟨gb372, 5, none⟩ = some (.slice A0_5 l0_5.length c0_5) := (blk_cell BK372.out 5).trans rfl
           have hfz47_0 := blk_frozen BK372.out 0
           have hfz47_1 := blk_frozen BK372.out 1
           have hfz47_2 := blk_frozen BK372.out 2
           have hfz47_3 := blk_frozen BK372.out 3
           have hfz47_4 := blk_frozen BK372.out 4
           have hfz47_5 := blk_frozen BK372.out 5
           go_wp2
           go_ret
           exact ⟨re_, bl_⟩
          ·rw [if_neg c46] at H
           have c46b0 : decide (0 < (l0_2.length : Int)) = false := decide_eq_false c46
           have c46b1 : decide (0 < l0_2.length) = false := decide_eq_false (by omega)
           clear c46
           by_cases c48 : (l0_3.length : Int) ≤ 4
           ·rw [if_pos c48] at H
            have c48b0 : decide ((l0_3.length : Int) ≤ 4) = true := decide_eq_true c48
            have c48b1 : decide (l0_3.length ≤ 4) = true := decide_eq_true (by omega)
            clear c48
            by_cases c49 : a0_4 = true
            ·subst c49
             have H1 : (if (l0_3.length : Int) > 0 then ((impl_SetOk.f l0_5).bind fun t380 => (if t380 = true then (some (decide ((l0_5.length : Int) ≤ 4))) else (some false))) else (some false)) = some r := by rw [if_pos rfl] at H; exact H
             clear H
             have H := H1
             clear H1
             by_cases c50 : (l0_3.length : Int) > 0
             ·rw [if_pos c50] at H
              have c50b0 : decide (0 < (l0_3.length : Int)) = true := decide_eq_true c50
              have c50b1 : decide (0 < l0_3.length) = true := decide_eq_true (by omega)
              clear c50
              replace H := Option.bind_eq_some_iff.mp H
              obtain ⟨t380, A510, H⟩ := H
              replace H : (if t380 = true then (some (decide ((l0_5.length : Int) ≤ 4))) else (some false)) = some r := H
              have A51 := Aside0.mk A510
              clear A510
              by_cases c52 : t380 = true
              ·subst c52
               have H1 : (some (decide ((l0_5.length : Int) ≤ 4))) = some r := by rw [if_pos rfl] at H; exact H
               clear H
               have H := H1
               clear H1
               obtain rfl := Option.some.inj H
               have hcz53_0 : wr.cell? ⟨gb372, 0, none⟩ = some (.bool false) := (blk_cell BK372.out 0).trans rfl
               have hcz53_1 : wr.cell? ⟨gb372, 1, none⟩ = some (.bool false) := (blk_cell BK372.out 1).trans rfl
               have hcz53_2 : wr.cell? ⟨gb372, 2, none⟩ = some (.slice A0_2 l0_2.length c0_2) := (blk_cell BK372.out 2).trans rfl
               have hcz53_3 : wr.cell? ⟨gb372, 3, none⟩ = some (.slice A0_3 l0_3.length c0_3) := (blk_cell BK372.out 3).trans rfl
               have hcz53_4 : wr.cell? ⟨gb372, 4, none⟩ = some (.bool true) := (blk_cell BK372.out 4).trans rfl
               have hcz53_5 : wr.cell? ⟨gb372, 5, none⟩ = some (.slice A0_5 l0_5.length c0_5) := (blk_cell BK372.out 5).trans rfl
               have hfz53_0 := blk_frozen BK372.out 0
               have hfz53_1 := blk_frozen BK372.out 1
               have hfz53_2 := blk_frozen BK372.out 2
               have hfz53_3 := blk_frozen BK372.out 3
               have hfz53_4 := blk_frozen BK372.out 4
               have hfz53_5 := blk_frozen BK372.out 5
               go_wp2_with (first | (go_at_call 36; (with_reducible refine (impl_SetOk.calls _ _ l0_5 true _ ?side1 ?side2 A51.out).mono ?_); (case side1 => repeat (first | exact (Kd.C_below HR0_5.out HB.out) | (with_reducible refine Kd.C_alloc ?_ _) | (with_reducible refine Kd.C_drewN ?_ _) | (with_reducible refine Kd.C_drew ?_))); (case side2 => exact HC0_5.out); rintro e w54 ⟨rfl, hb⟩; have n0_ := Aside0.mk (blk_below (g := gb372) (o := .cells #[.bool false, .bool false, .slice A0_2 l0_2.length c0_2, .slice A0_3 l0_3.length c0_3, .bool true, .slice A0_5 l0_5.length c0_5] 57 (0, 0)) (bk_ BK372.out) hb); have n1_ := Aside0.mk (below_step bl_ hb); clear BK372; clear HB; have BK372 := n0_; have HB := n1_; clear n0_ n1_; (try clear hb); (try clear hb2); (try clear hk); (try clear hi); have hcz55_0 : w54.cell? ⟨gb372, 0, none⟩ = some (.bool false) := (blk_cell BK372.out 0).trans rfl; have hcz55_1 : w54.cell? ⟨gb372, 1, none⟩ = some (.bool false) := (blk_cell BK372.out 1).trans rfl; have hcz55_2 : w54.cell? ⟨gb372, 2, none⟩ = some (.slice A0_2 l0_2.length c0_2) := (blk_cell BK372.out 2).trans rfl; have hcz55_3 : w54.cell? ⟨gb372, 3, none⟩ = some (.slice A0_3 l0_3.length c0_3) := (blk_cell BK372.out 3).trans rfl; have hcz55_4 : w54.cell? ⟨gb372, 4, none⟩ = some (.bool true) := (blk_cell BK372.out 4).trans rfl; have hcz55_5 : w54.cell? ⟨gb372, 5, none⟩ = some (.slice A0_5 l0_5.length c0_5) := (blk_cell BK372.out 5).trans rfl; have hfz55_0 := blk_frozen BK372.out 0; have hfz55_1 := blk_frozen BK372.out 1; have hfz55_2 := blk_frozen BK372.out 2; have hfz55_3 := blk_frozen BK372.out 3; have hfz55_4 := blk_frozen BK372.out 4; have hfz55_5 := blk_frozen BK372.out 5))
               go_ret
               exact ⟨re_, bl_⟩
              ·replace c52 := Bool.eq_false_iff.mpr c52
               subst c52
               have H1 : (some false) = some r := by rw [if_neg (show ¬ (false = true) by decide)] at H; exact H
               clear H
               have H := H1
               clear H1
               obtain rfl := Option.some.inj H
               have hcz56_0 : wr.cell? ⟨gb372, 0, none⟩ = some (.bool false) := (blk_cell BK372.out 0).trans rfl
               have hcz56_1 : wr.cell? ⟨gb372, 1, none⟩ = some (.bool false) := (blk_cell BK372.out 1).trans rfl
               have hcz56_2 : wr.cell? ⟨gb372, 2, none⟩ = some (.slice A0_2 l0_2.length c0_2) := (blk_cell BK372.out 2).trans rfl
               have hcz56_3 : wr.cell? ⟨gb372, 3, none⟩ = some (.slice A0_3 l0_3.length c0_3) := (blk_cell BK372.out 3).trans rfl
               have hcz56_4 : wr.cell? ⟨gb372, 4, none⟩ = some (.bool true) := (blk_cell BK372.out 4).trans rfl
               have hcz56_5 : wr.cell? ⟨gb372, 5, none⟩ = some (.slice A0_5 l0_5.length c0_5) := (blk_cell BK372.out 5).trans rfl
               have hfz56_0 := blk_frozen BK372.out 0
               have hfz56_1 := blk_frozen BK372.out 1
               have hfz56_2 := blk_frozen BK372.out 2
               have hfz56_3 := blk_frozen BK372.out 3
               have hfz56_4 := blk_frozen BK372.out 4
               have hfz56_5 := blk_frozen BK372.out 5
               go_wp2_with (first | (go_at_call 36; (with_reducible refine (impl_SetOk.calls _ _ l0_5 false _ ?side1 ?side2 A51.out).mono ?_); (case side1 => repeat (first | exact (Kd.C_below HR0_5.out HB.out) | (with_reducible refine Kd.C_alloc ?_ _) | (with_reducible refine Kd.C_drewN ?_ _) | (with_reducible refine Kd.C_drew ?_))); (case side2 => exact HC0_5.out); rintro e w57 ⟨rfl, hb⟩; have n0_ := Aside0.mk (blk_below (g := gb372) (o := .cells #[.bool false, .bool false, .slice A0_2 l0_2.length c0_2, .slice A0_3 l0_3.length c0_3, .bool true, .slice A0_5 l0_5.length c0_5] 57 (0, 0)) (bk_ BK372.out) hb); have n1_ := Aside0.mk (below_step bl_ hb); clear BK372; clear HB; have BK372 := n0_; have HB := n1_; clear n0_ n1_; (try clear hb); (try clear hb2); (try clear hk); (try clear hi)))
               go_ret
               exact ⟨re_, bl_⟩
             ·rw [if_neg c50] at H
              have c50b0 : decide (0 < (l0_3.length : Int)) = false := decide_eq_false c50
              have c50b1 : decide (0 < l0_3.length) = false := decide_eq_false (by omega)
              clear c50
              obtain rfl := Option.some.inj H
              have hcz58_0 : wr.cell? ⟨gb372, 0, none⟩ = some (.bool false) := (blk_cell BK372.out 0).trans rfl
              have hcz58_1 : wr.cell? ⟨gb372, 1, none⟩ = some (.bool false) := (blk_cell BK372.out 1).trans rfl
              have hcz58_2 : wr.cell? ⟨gb372, 2, none⟩ = some (.slice A0_2 l0_2.length c0_2) := (blk_cell BK372.out 2).trans rfl
              have hcz58_3 : wr.cell? ⟨gb372, 3, none⟩ = some (.slice A0_3 l0_3.length c0_3) := (blk_cell BK372.out 3).trans rfl
              have hcz58_4 : wr.cell? ⟨gb372, 4, none⟩ = some (.bool true) := (blk_cell BK372.out 4).trans rfl
              have hcz58_5 : wr.cell? ⟨gb372, 5, none⟩ = some (.slice A0_5 l0_5.length c0_5) := (blk_cell BK372.out 5).trans rfl
              have hfz58_0 := blk_frozen BK372.out 0
              have hfz58_1 := blk_frozen BK372.out 1
              have hfz58_2 := blk_frozen BK372.out 2
              have hfz58_3 := blk_frozen BK372.out 3
              have hfz58_4 := blk_frozen BK372.out 4
              have hfz58_5 := blk_frozen BK372.out 5
              go_wp2
              go_ret
              exact ⟨re_, bl_⟩
            ·replace c49 := Bool.eq_false_iff.mpr c49
             subst c49
             have H1 : ((impl_SetOk.f l0_5).bind fun t381 => (if t381 = true then (some (decide ((l0_5.length : Int) ≤ 4))) else (some false))) = some r := by rw [if_neg (show ¬ (false = true) by decide)] at H; exact H
             clear H
             have H := H1
             clear H1
             replace H := Option.bind_eq_some_iff.mp H
             obtain ⟨t381, A590, H⟩ := H
             replace H : (if t381 = true then (some (decide ((l0_5.length : Int) ≤ 4))) else (some false)) = some r := H
             have A59 := Aside0.mk A590
             clear A590
             by_cases c60 : t381 = true
             ·subst c60
              have H1 : (some (decide ((l0_5.length : Int) ≤ 4))) = some r := by rw [if_pos rfl] at H; exact H
              clear H
              have H := H1
              clear H1
              obtain rfl := Option.some.inj H
              have hcz61_0 : wr.cell? ⟨gb372, 0, none⟩ = some (.bool false) := (blk_cell BK372.out 0).trans rfl
              have hcz61_1 : wr.cell? ⟨gb372, 1, none⟩ = some (.bool false) := (blk_cell BK372.out 1).trans rfl
              have hcz61_2 : wr.cell? ⟨gb372, 2, none⟩ = some (.slice A0_2 l0_2.length c0_2) := (blk_cell BK372.out 2).trans rfl
              have hcz61_3 : wr.cell? ⟨gb372, 3, none⟩ = some (.slice A0_3 l0_3.length c0_3) := (blk_cell BK372.out 3).trans rfl
              have hcz61_4 : wr.cell? ⟨gb372, 4, none⟩ = some (.bool false) := (blk_cell BK372.out 4).trans rfl
              have hcz61_5 : wr.cell? ⟨gb372, 5, none⟩ = some (.slice A0_5 l0_5.length c0_5) := (blk_cell BK372.out 5).trans rfl
              have hfz61_0 := blk_frozen BK372.out 0
              have hfz61_1 := blk_frozen BK372.out 1
              have hfz61_2 := blk_frozen BK372.out 2
              have hfz61_3 := blk_frozen BK372.out 3
              have hfz61_4 := blk_frozen BK372.out 4
              have hfz61_5 := blk_frozen BK372.out 5
              go_wp2_with (first | (go_at_call 36; (with_reducible refine (impl_SetOk.calls _ _ l0_5 true _ ?side1 ?side2 A59.out).mono ?_); (case side1 => repeat (first | exact (Kd.C_below HR0_5.out HB.out) | (with_reducible refine Kd.C_alloc ?_ _) | (with_reducible refine Kd.C_drewN ?_ _) | (with_reducible refine Kd.C_drew ?_))); (case side2 => exact HC0_5.out); rintro e w62 ⟨rfl, hb⟩; have n0_ := Aside0.mk (blk_below (g := gb372) (o := .cells #[.bool false, .bool false, .slice A0_2 l0_2.length c0_2, .slice A0_3 l0_3.length c0_3, .bool false, .slice A0_5 l0_5.length c0_5] 57 (0, 0)) (bk_ BK372.out) hb); have n1_ := Aside0.mk (below_step bl_ hb); clear BK372; clear HB; have BK372 := n0_; have HB := n1_; clear n0_ n1_; (try clear hb); (try clear hb2); (try clear hk); (try clear hi); have hcz63_0 : w62.cell? ⟨gb372, 0, none⟩ = some (.bool false) := (blk_cell BK372.out 0).trans rfl; have hcz63_1 : w62.cell? ⟨gb372, 1, none⟩ = some (.bool false) := (blk_cell BK372.out 1).trans rfl; have hcz63_2 : w62.cell? ⟨gb372, 2, none⟩ = some (.slice A0_2 l0_2.length c0_2) := (blk_cell BK372.out 2).trans rfl; have hcz63_3 : w62.cell? ⟨gb372, 3, none⟩ = some (.slice A0_3 l0_3.length c0_3) := (blk_cell BK372.out 3).trans rfl; have hcz63_4 : w62.cell? ⟨gb372, 4, none⟩ = some (.bool false) := (blk_cell BK372.out 4).trans rfl; have hcz63_5 : w62.cell? ⟨gb372, 5, none⟩ = some (.slice A0_5 l0_5.length c0_5) := (blk_cell BK372.out 5).trans rfl; have hfz63_0 := blk_frozen BK372.out 0; have hfz63_1 := blk_frozen BK372.out 1; have hfz63_2 := blk_frozen BK372.out 2; have hfz63_3 := blk_frozen BK372.out 3; have hfz63_4 := blk_frozen BK372.out 4; have hfz63_5 := blk_frozen BK372.out 5))
              go_ret
              exact ⟨re_, bl_⟩
             ·replace c60 := Bool.eq_false_iff.mpr c60
              subst c60
              have H1 : (some false) = some r := by rw [if_neg (show ¬ (false = true) by decide)] at H; exact H
              clear H
              have H := H1
              clear H1
              obtain rfl := Option.some.inj H
              have hcz64_0 : wr.cell? ⟨gb372, 0, none⟩ = some (.bool false) := (blk_cell BK372.out 0).trans rfl
              have hcz64_1 : wr.cell? ⟨gb372, 1, none⟩ = some (.bool false) := (blk_cell BK372.out 1).trans rfl
              have hcz64_2 : wr.cell? ⟨gb372, 2, none⟩ = some (.slice A0_2 l0_2.length c0_2) := (blk_cell BK372.out 2).trans rfl
              have hcz64_3 : wr.cell? ⟨gb372, 3, none⟩ = some (.slice A0_3 l0_3.length c0_3) := (blk_cell BK372.out 3).trans rfl
              have hcz64_4 : wr.cell? ⟨gb372, 4, none⟩ = some (.bool false) := (blk_cell BK372.out 4).trans rfl
              have hcz64_5 : wr.cell? ⟨gb372, 5, none⟩ = some (.slice A0_5 l0_5.length c0_5) := (blk_cell BK372.out 5).trans rfl
              have hfz64_0 := blk_frozen BK372.out 0
              have hfz64_1 := blk_frozen BK372.out 1
              have hfz64_2 := blk_frozen BK372.out 2
              have hfz64_3 := blk_frozen BK372.out 3
              have hfz64_4 := blk_frozen BK372.out 4
              have hfz64_5 := blk_frozen BK372.out 5
              go_wp2_with (first | (go_at_call 36; (with_reducible refine (impl_SetOk.calls _ _ l0_5 false _ ?side1 ?side2 A59.out).mono ?_); (case side1 => repeat (first | exact (Kd.C_below HR0_5.out HB.out) | (with_reducible refine Kd.C_alloc ?_ _) | (with_reducible refine Kd.C_drewN ?_ _) | (with_reducible refine Kd.C_drew ?_))); (case side2 => exact HC0_5.out); rintro e w65 ⟨rfl, hb⟩; have n0_ := Aside0.mk (blk_below (g := gb372) (o := .cells #[.bool false, .bool false, .slice A0_2 l0_2.length c0_2, .slice A0_3 l0_3.length c0_3, .bool false, .slice A0_5 l0_5.length c0_5] 57 (0, 0)) (bk_ BK372.out) hb); have n1_ := Aside0.mk (below_step bl_ hb); clear BK372; clear HB; have BK372 := n0_; have HB := n1_; clear n0_ n1_; (try clear hb); (try clear hb2); (try clear hk); (try clear hi)))
              go_ret
              exact ⟨re_, bl_⟩
           ·rw [if_neg c48] at H
            have c48b0 : decide ((l0_3.length : Int) ≤ 4) = false := decide_eq_false c48
            have c48b1 : decide (l0_3.length ≤ 4) = false := decide_eq_false (by omega)
            clear c48
            obtain rfl := Option.some.inj H
            have hcz66_0 : wr.cell? ⟨gb372, 0, none⟩ = some (.bool false) := (blk_cell BK372.out 0).trans rfl
            have hcz66_1 : wr.cell? ⟨gb372, 1, none⟩ = some (.bool false) := (blk_cell BK372.out 1).trans rfl
            have hcz66_2 : wr.cell? ⟨gb372, 2, none⟩ = some (.slice A0_2 l0_2.length c0_2) := (blk_cell BK372.out 2).trans rfl
            have hcz66_3 : wr.cell? ⟨gb372, 3, none⟩ = some (.slice A0_3 l0_3.length c0_3) := (blk_cell BK372.out 3).trans rfl
            have hcz66_4 : wr.cell? ⟨gb372, 4, none⟩ = some (.bool a0_4) := (blk_cell BK372.out 4).trans rfl
            have hcz66_5 : wr.cell? ⟨gb372, 5, none⟩ = some (.slice A0_5 l0_5.length c0_5) := (blk_cell BK372.out 5).trans rfl
            have hfz66_0 := blk_frozen BK372.out 0
            have hfz66_1 := blk_frozen BK372.out 1
            have hfz66_2 := blk_frozen BK372.out 2
            have hfz66_3 := blk_frozen BK372.out 3
            have hfz66_4 := blk_frozen BK372.out 4
            have hfz66_5 := blk_frozen BK372.out 5
            go_wp2
            go_ret
            exact ⟨re_, bl_⟩

end Go.Proofs.YtkgomifdmpkaeaaGreatDoor.Ldn
