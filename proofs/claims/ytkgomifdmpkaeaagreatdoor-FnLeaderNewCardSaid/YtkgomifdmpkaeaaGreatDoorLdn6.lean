/- Contracts of functions of the program: each call returns what the plain function '.f' of that name says, wherever it says something. -/
import Derived.Test.YtkgomifdmpkaeaaGreatDoorLdn0
import Derived.Test.YtkgomifdmpkaeaaGreatDoorLdn5
namespace Go.Proofs.YtkgomifdmpkaeaaGreatDoor.Ldn
open Go.RowKit Go.Proofs.YtkgomifdmpkaeaaGreatDoorW.PrintWords Go.Proofs.YtkgomifdmpkaeaaGreatDoorW.PrintLast Go.Proofs.YtkgomifdmpkaeaaGreatDoorW.PrintMore
attribute [local go_sem] max2_int min2_int max_two min_two max_three min_three max_four min_four   -- for this text's walks alone
set_option linter.unusedVariables false
set_option linter.unusedSimpArgs false

/-! ### impl_BaseTick: function 32 -/
mutual
def impl_BaseTick.j0 : Nat → Int → Bool → Int → List (S67) → Option (Int × (List (S67)))
 | 0, _, _, _, _ => none
 | k + 1, x1, x20, x249000, x249001 => if x20 = true then ((impl_cloneBase.f k x249000 x249001).bind fun bt251 => (some (bt251.1, bt251.2))) else (impl_BaseTick.l0 k x249001 (x249001.length : Int) 0 (wrap64 (x249000 + x1)) (([] : List (S67))))
def impl_BaseTick.l0 : Nat → List (S67) → Int → Int → Int → List (S67) → Option (Int × (List (S67)))
 | 0, _, _, _, _, _ => none
 | k + 1, x30, x31, x32, x259000, x259001 => if x32 < x31 then (if 0 ≤ x32 then (if x32 < (x30.length : Int) then (if ((rd_T67 x30 x32).f1) = 0 then ((impl_cloneEntry.f ((rd_T67 x30 x32).f0) ((rd_T67 x30 x32).f1) ((rd_T67 x30 x32).f2) ((rd_T67 x30 x32).f3) ((rd_T67 x30 x32).f4) ((rd_T67 x30 x32).f5) ((rd_T67 x30 x32).f6)).bind fun bt261 => (if x259001.length < 1172812402961 then (impl_BaseTick.l0 k x30 x31 (wrap64 (x32 + 1)) x259000 (x259001 ++ [(⟨bt261.1, bt261.2.1, bt261.2.2.1, bt261.2.2.2.1, bt261.2.2.2.2.1, bt261.2.2.2.2.2.1, bt261.2.2.2.2.2.2⟩ : S67)])) else (none))) else (if ((rd_T67 x30 x32).f1) > x259000 then ((impl_cloneEntry.f ((rd_T67 x30 x32).f0) ((rd_T67 x30 x32).f1) ((rd_T67 x30 x32).f2) ((rd_T67 x30 x32).f3) ((rd_T67 x30 x32).f4) ((rd_T67 x30 x32).f5) ((rd_T67 x30 x32).f6)).bind fun bt277 => (if x259001.length < 1172812402961 then (impl_BaseTick.l0 k x30 x31 (wrap64 (x32 + 1)) x259000 (x259001 ++ [(⟨bt277.1, bt277.2.1, bt277.2.2.1, bt277.2.2.2.1, bt277.2.2.2.2.1, bt277.2.2.2.2.2.1, bt277.2.2.2.2.2.2⟩ : S67)])) else (none))) else (impl_BaseTick.l0 k x30 x31 (wrap64 (x32 + 1)) x259000 x259001))) else (none)) else (none)) else (some (x259000, x259001))
end
def impl_BaseTick.f (k : Nat) (a0_0 : Int) (l0_1 : List (S67)) (a1 : Int) : Option (Int × (List (S67))) := (impl_BaseOk.f a0_0 l0_1).bind fun t250 => (if t250 = true then (if a1 < 0 then (impl_BaseTick.j0 k a1 true a0_0 l0_1) else (impl_BaseTick.j0 k a1 (decide (a1 > (wrap64 (1000000 - a0_0)))) a0_0 l0_1)) else (some (0, ([] : List (S67)))))
theorem impl_BaseTick.mono_l : ∀ k, (∀ y0 y1 y2 y3, LeO (impl_BaseTick.j0 k y0 y1 y2 y3) (impl_BaseTick.j0 (k + 1) y0 y1 y2 y3)) ∧ (∀ y0 y1 y2 y3 y4, LeO (impl_BaseTick.l0 k y0 y1 y2 y3 y4) (impl_BaseTick.l0 (k + 1) y0 y1 y2 y3 y4))
 | 0 => ⟨fun _ _ _ _ r h => by simp [impl_BaseTick.j0] at h, fun _ _ _ _ _ r h => by simp [impl_BaseTick.l0] at h⟩
 | k + 1 => by
  obtain ⟨ih0, ih1⟩ := impl_BaseTick.mono_l k
  refine ⟨?_, ?_⟩
  ·intro y0 y1 y2 y3
   unfold impl_BaseTick.j0
   repeat' first
   | (with_reducible exact ih0 _ _ _ _)
   | (with_reducible exact ih1 _ _ _ _ _)
   | (with_reducible exact impl_cloneBase.mono _ _ _)
   | (with_reducible exact LeO.refl _)
   | (with_reducible exact LeO.none _)
   | (with_reducible refine LeO.ite ?_ ?_)
   | (with_reducible refine LeO.bind ?_ (fun _ => ?_))
   | exact ih0 _ _ _ _
   | exact ih1 _ _ _ _ _
   | exact impl_cloneBase.mono _ _ _
   | exact LeO.none _
   | refine LeO.ite ?_ ?_
   | refine LeO.bind ?_ (fun _ => ?_)
  ·intro y0 y1 y2 y3 y4
   unfold impl_BaseTick.l0
   repeat' first
   | (with_reducible exact ih0 _ _ _ _)
   | (with_reducible exact ih1 _ _ _ _ _)
   | (with_reducible exact impl_cloneBase.mono _ _ _)
   | (with_reducible exact LeO.refl _)
   | (with_reducible exact LeO.none _)
   | (with_reducible refine LeO.ite ?_ ?_)
   | (with_reducible refine LeO.bind ?_ (fun _ => ?_))
   | exact ih0 _ _ _ _
   | exact ih1 _ _ _ _ _
   | exact impl_cloneBase.mono _ _ _
   | exact LeO.none _
   | refine LeO.ite ?_ ?_
   | refine LeO.bind ?_ (fun _ => ?_)
theorem impl_BaseTick.mono : ∀ a0 a1 a2 k, LeO (impl_BaseTick.f k a0 a1 a2) (impl_BaseTick.f (k + 1) a0 a1 a2) := by
 intro a0 a1 a2 k
 obtain ⟨ih0, ih1⟩ := impl_BaseTick.mono_l k
 unfold impl_BaseTick.f
 repeat' first
   | (with_reducible exact ih0 _ _ _ _)
   | (with_reducible exact ih1 _ _ _ _ _)
   | (with_reducible exact impl_cloneBase.mono _ _ _)
   | (with_reducible exact LeO.refl _)
   | (with_reducible exact LeO.none _)
   | (with_reducible refine LeO.ite ?_ ?_)
   | (with_reducible refine LeO.bind ?_ (fun _ => ?_))
   | exact ih0 _ _ _ _
   | exact ih1 _ _ _ _ _
   | exact impl_cloneBase.mono _ _ _
   | exact LeO.none _
   | refine LeO.ite ?_ ?_
   | refine LeO.bind ?_ (fun _ => ?_)
def impl_BaseTick.T10 : Bool × List (List Nat × List Nat) := (true, [([], []), ([0], [0]), ([], []), ([2], [2]), ([3], [3]), ([1, 4, 3], [1, 4]), ([0, 1, 2, 3, 4, 5], []), ([6, 5, 5, 0, 1, 2, 3, 4, 5], [5, 6])])
def impl_BaseTick.B10 : List Nat := [0, 1, 0, 4, 12, 31, 63, 127]
theorem impl_BaseTick.tab10 : rtab .any (opsOf Tryz.f32 10) = impl_BaseTick.T10 := by kernel_rfl
theorem impl_BaseTick.bits10 : waitsOk impl_BaseTick.T10.2 impl_BaseTick.B10 = true := by kernel_rfl
set_option maxHeartbeats 8000000 in
set_option maxRecDepth 100000 in
theorem impl_BaseTick.calls (k : Nat) (a0_0 : Int) (A0_1 : Option Addr) (c0_1 : Nat) (l0_1 : List (S67)) (a1 : Int) (r1 : Int) (r2 : List (S67)) (w : World) (hr0_1 : Kd.C k67 w A0_1 l0_1.length l0_1) (hc0_1 : l0_1.length ≤ c0_1) (h : impl_BaseTick.f k a0_0 l0_1 a1 = some (r1, r2)) :
  Calls Tryz.prog 32 #[.agg #[.int .i64 a0_0, .slice A0_1 l0_1.length c0_1], .int .i64 a1] w fun e w' => ∃ v1_ : Value, e = .returned (.agg #[.int .i64 r1, v1_]) ∧ Kd.S k67 67 w' w.heap.size (fun _ => True) v1_ r2 ∧ Below w.heap.size w w' := by
 have hu26 := Tryz.underlying26
 have hu67 := Tryz.underlying67
 have HR0_1 := Aside0.mk hr0_1
 have HC0_1 := Aside0.mk hc0_1
 clear hr0_1 hc0_1
 have HB := Aside0.mk (Below.refl w.heap.size w)
 have H : ((impl_BaseOk.f a0_0 l0_1).bind fun t250 => (if t250 = true then (if a1 < 0 then (impl_BaseTick.j0 k a1 true a0_0 l0_1) else (impl_BaseTick.j0 k a1 (decide (a1 > (wrap64 (1000000 - a0_0)))) a0_0 l0_1)) else (some (0, ([] : List (S67)))))) = some (r1, r2) := h
 clear h
 replace H := Option.bind_eq_some_iff.mp H
 obtain ⟨t250, A30, H⟩ := H
 replace H : (if t250 = true then (if a1 < 0 then (impl_BaseTick.j0 k a1 true a0_0 l0_1) else (impl_BaseTick.j0 k a1 (decide (a1 > (wrap64 (1000000 - a0_0)))) a0_0 l0_1)) else (some (0, ([] : List (S67))))) = some (r1, r2) := H
 have A3 := Aside0.mk A30
 clear A30
 by_cases c4 : t250 = true
 ·subst c4
  have H1 : (if a1 < 0 then (impl_BaseTick.j0 k a1 true a0_0 l0_1) else (impl_BaseTick.j0 k a1 (decide (a1 > (wrap64 (1000000 - a0_0)))) a0_0 l0_1)) = some (r1, r2) := by rw [if_pos rfl] at H; exact H
  clear H
  have H := H1
  clear H1
  have HC5 := Aside0.mk H
  clear H
  go_enter Tryz.func32, Tryz.ntmps32
  go_upto_region 3 with (first | ((with_reducible refine gate_dst (N := 2) rfl ?_); refine box_event ?hg (N := 2) ?hd (cs := #[.int .i64 a0_0, .slice A0_1 l0_1.length c0_1]) (t := 26) ?hr ?_; (case hd => rfl); (case hg => rfl); (case hr => first | (go_simp; done) | (go_simp; rfl)); intro gb248 hg w6 hbox hb; have n0_ := Aside0.mk (below_step bl_ hb); have n1_ := Aside0.mk (hbox); have n2_ := Aside0.mk ((by rw [hg]; exact (below_size bl_) : w.heap.size ≤ gb248)); have n3_ := Aside0.mk ((by rw [hg]; exact (below_size bl_) : w.heap.size ≤ gb248)); clear HB; have HB := n0_; have BK248 := n1_; have GW248 := n2_; have GE248 := n3_; clear n0_ n1_ n2_ n3_; clear hb hbox hg) | ((with_reducible refine gate_dst (N := 4) rfl ?_); refine box_event ?hg (N := 4) ?hd (cs := #[.int .i64 0, .slice none 0 0]) (t := 26) ?hr ?_; (case hd => rfl); (case hg => rfl); (case hr => first | (go_simp; done) | (go_simp; rfl)); intro gb249 hg w7 hbox hb; have n0_ := Aside0.mk (blk_below (g := gb248) (o := .cells #[.int .i64 a0_0, .slice A0_1 l0_1.length c0_1] 26 (0, 0)) (bk_ BK248.out) hb); have n1_ := Aside0.mk (below_step bl_ hb); have n2_ := Aside0.mk (hbox); have n3_ := Aside0.mk ((by rw [hg]; exact (below_size bl_) : w.heap.size ≤ gb249)); have n4_ := Aside0.mk ((by rw [hg]; exact (below_size bl_) : w.heap.size ≤ gb249)); have n5_ := Aside0.mk ((by rw [hg]; exact Nat.ne_of_lt (blk_lt (g := gb248) (o := .cells #[.int .i64 a0_0, .slice A0_1 l0_1.length c0_1] 26 (0, 0)) (bk_ BK248.out)) : gb248 ≠ gb249)); have n6_ := Aside0.mk ((by rw [hg]; exact Nat.ne_of_gt (blk_lt (g := gb248) (o := .cells #[.int .i64 a0_0, .slice A0_1 l0_1.length c0_1] 26 (0, 0)) (bk_ BK248.out)) : gb249 ≠ gb248)); clear BK248; clear HB; have BK248 := n0_; have HB := n1_; have BK249 := n2_; have GW249 := n3_; have GE249 := n4_; have NB248_249 := n5_; have NB249_248 := n6_; clear n0_ n1_ n2_ n3_ n4_ n5_ n6_; clear hb hbox hg; have hnb8 := NB248_249.out; have hnc8 := NB249_248.out; have hcz9_0 : w7.cell? ⟨gb248, 0, none⟩ = some (.int .i64 a0_0) := (blk_cell BK248.out 0).trans rfl; have hcz9_1 : w7.cell? ⟨gb248, 1, none⟩ = some (.slice A0_1 l0_1.length c0_1) := (blk_cell BK248.out 1).trans rfl; have hfz9_0 := blk_frozen BK248.out 0; have hfz9_1 := blk_frozen BK248.out 1) | ((with_reducible refine gate_callee (f := 29) rfl ?_); refine goesL_ (some 9) rfl rfl Tryz.func29 (by kernel_rfl) rfl #[.agg #[.int .i64 a0_0, .slice A0_1 l0_1.length c0_1]] rfl ga_ ?_; (with_reducible refine (impl_BaseOk.calls a0_0 _ _ l0_1 true _ ?side1 ?side2 A3.out).mono ?_); (case side1 => repeat (first | exact (Kd.C_below HR0_1.out HB.out) | (with_reducible refine Kd.C_alloc ?_ _) | (with_reducible refine Kd.C_drewN ?_ _) | (with_reducible refine Kd.C_drew ?_))); (case side2 => exact HC0_1.out); rintro e w10 ⟨rfl, hb⟩; refine ⟨_, rfl, ?_⟩; have n0_ := Aside0.mk (blk_below (g := gb248) (o := .cells #[.int .i64 a0_0, .slice A0_1 l0_1.length c0_1] 26 (0, 0)) (bk_ BK248.out) hb); have n1_ := Aside0.mk (blk_below (g := gb249) (o := .cells #[.int .i64 0, .slice none 0 0] 26 (0, 0)) (bk_ BK249.out) hb); have n2_ := Aside0.mk (below_step bl_ hb); clear BK248; clear BK249; clear HB; have BK248 := n0_; have BK249 := n1_; have HB := n2_; clear n0_ n1_ n2_; (try clear hb); (try clear hb2); (try clear hk); (try clear hi)))
  (try simp only [Act.put, List.setIfInBounds_toArray, List.set_cons_zero, List.set_cons_succ])
  go_cut [20] (fun v20 wc => ∃ (kq : Nat) (x20_4 : Bool), v20 = .bool x20_4 ∧ Aside0 (impl_BaseTick.j0 kq a1 x20_4 a0_0 l0_1 = some (r1, r2)) ∧ Aside0 (kq ≤ k) ∧ Aside0 (wc.heap[gb248]? = some (.cells #[.int .i64 a0_0, (.slice A0_1 l0_1.length c0_1)] 26 (0, 0))) ∧ Aside0 (wc.heap[gb249]? = some (.cells #[.int .i64 0, (.slice none 0 0)] 26 (0, 0))) ∧ Aside0 (Below w.heap.size w wc))
  case first =>
   have H := HC5.out
   clear HC5
   by_cases c11 : a1 < 0
   ·rw [if_pos c11] at H
    have c11b0 : decide (a1 < 0) = true := decide_eq_true c11
    clear c11
    (first | rw [c11b0] | (simp only [i64_w, i32_w]; rw [c11b0]) | skip)
    have H' := Aside0.mk H
    clear H
    go_wp2
    go_meet
    case rel => exact ⟨_, (true), rs_, H', ⟨by first | omega | exact Nat.le_refl _⟩, ⟨bk_ BK248.out⟩, ⟨bk_ BK249.out⟩, ⟨bl_⟩⟩
   ·rw [if_neg c11] at H
    have c11b0 : decide (a1 < 0) = false := decide_eq_false c11
    clear c11
    (first | rw [c11b0] | (simp only [i64_w, i32_w]; rw [c11b0]) | skip)
    have H' := Aside0.mk H
    clear H
    have hnb12 := NB248_249.out
    have hnc12 := NB249_248.out
    have hcz13_0 : w10.cell? ⟨gb248, 0, none⟩ = some (.int .i64 a0_0) := (blk_cell BK248.out 0).trans rfl
    have hcz13_1 : w10.cell? ⟨gb248, 1, none⟩ = some (.slice A0_1 l0_1.length c0_1) := (blk_cell BK248.out 1).trans rfl
    have hfz13_0 := blk_frozen BK248.out 0
    have hfz13_1 := blk_frozen BK248.out 1
    go_wp2
    go_meet
    case rel => exact ⟨_, (decide (a1 > (wrap64 (1000000 - a0_0)))), rs_, H', ⟨by first | omega | exact Nat.le_refl _⟩, ⟨bk_ BK248.out⟩, ⟨bk_ BK249.out⟩, ⟨bl_⟩⟩
  case rest =>
   clear HC5
   try clear c1
   try clear c2
   try clear p2
   try clear c3
   try clear c4
   try clear p6
   try clear c8
   try clear c11
   try clear c11b0
   try clear c12
   try clear hcz13_0
   try clear hcz13_1
   try clear hcz9_0
   try clear hcz9_1
   try clear hfz13_0
   try clear hfz13_1
   try clear hfz9_0
   try clear hfz9_1
   obtain ⟨kq, x20_4, rfl, HA, HJ4, BK248, BK249, HB⟩ := hcut
   cases kq with
   | zero => exact absurd HA.out (by simp [impl_BaseTick.j0])
   | succ kj4 =>
    have H := HA.out
    clear HA
    simp only [impl_BaseTick.j0] at H
    by_cases c14 : x20_4 = true
    ·subst c14
     have H1 : ((impl_cloneBase.f kj4 a0_0 l0_1).bind fun bt251 => (some (bt251.1, bt251.2))) = some (r1, r2) := by rw [if_pos rfl] at H; exact H
     clear H
     have H := H1
     clear H1
     replace H := Option.bind_eq_some_iff.mp H
     obtain ⟨⟨t251, t252⟩, A150, H⟩ := H
     replace H : (some (t251, t252)) = some (r1, r2) := H
     have A15 := Aside0.mk A150
     clear A150
     simp only [Option.some.injEq, Prod.mk.injEq] at H
     obtain ⟨rfl, rfl⟩ := H
     have hnb16 := NB248_249.out
     have hnc16 := NB249_248.out
     have hcz17_0 : wc.cell? ⟨gb248, 0, none⟩ = some (.int .i64 a0_0) := (blk_cell BK248.out 0).trans rfl
     have hcz17_1 : wc.cell? ⟨gb248, 1, none⟩ = some (.slice A0_1 l0_1.length c0_1) := (blk_cell BK248.out 1).trans rfl
     have hfz17_0 := blk_frozen BK248.out 0
     have hfz17_1 := blk_frozen BK248.out 1
     go_wp2_with (first | ((with_reducible refine gate_callee (f := 44) rfl ?_); refine goesL_ (some 22) rfl rfl Tryz.func44 (by kernel_rfl) rfl #[.agg #[.int .i64 a0_0, .slice A0_1 l0_1.length c0_1]] rfl ga_ ?_; (with_reducible refine (impl_cloneBase.calls kj4 a0_0 _ _ l0_1 t251 t252 _ ?side1 ?side2 A15.out).mono ?_); (case side1 => repeat (first | exact (Kd.C_below HR0_1.out HB.out) | (with_reducible refine Kd.C_alloc ?_ _) | (with_reducible refine Kd.C_drewN ?_ _) | (with_reducible refine Kd.C_drew ?_))); (case side2 => exact HC0_1.out); rintro e w18 ⟨v253, rfl, ho0, hb⟩; refine ⟨_, rfl, ?_⟩; have n0_ := Aside0.mk (Kd.S_lower ho0 (below_size bl_)); have n1_ := Aside0.mk (blk_below (g := gb248) (o := .cells #[.int .i64 a0_0, .slice A0_1 l0_1.length c0_1] 26 (0, 0)) (bk_ BK248.out) hb); have n2_ := Aside0.mk (blk_below (g := gb249) (o := .cells #[.int .i64 0, .slice none 0 0] 26 (0, 0)) (bk_ BK249.out) hb); have n3_ := Aside0.mk (below_step bl_ hb); clear BK248; clear BK249; clear HB; have HO254 := n0_; have BK248 := n1_; have BK249 := n2_; have HB := n3_; clear n0_ n1_ n2_ n3_; (try clear hb); (try clear hb2); (try clear hk); (try clear hi); (try clear ho0); have hcz19_0 : w18.cell? ⟨gb249, 0, none⟩ = some (.int .i64 0) := (blk_cell BK249.out 0).trans rfl; have hcz19_1 : w18.cell? ⟨gb249, 1, none⟩ = some (.slice none 0 0) := (blk_cell BK249.out 1).trans rfl; have hfz19_0 := blk_frozen BK249.out 0; have hfz19_1 := blk_frozen BK249.out 1; obtain ⟨Ao20, co20, eo20⟩ := Kd.S_slice HO254.out; subst eo20))
     refine bodyPost_ret (results_cell_row rfl _ _ gb249 26 #[.int .i64 t251, .slice Ao20 t252.length co20] (0, 0) _ rfl (by (with_reducible repeat (first | refine blk_drewN ?_ _ | refine blk_drew ?_ | refine blk_alloc ?_ _)); refine blk_put (cs := #[.int .i64 t251, .slice none 0 0]) ?_ 1 _ rfl; (with_reducible repeat (first | refine blk_drewN ?_ _ | refine blk_drew ?_ | refine blk_alloc ?_ _)); refine blk_put (cs := #[.int .i64 0, .slice none 0 0]) ?_ 0 _ rfl; (with_reducible repeat (first | refine blk_drewN ?_ _ | refine blk_drew ?_ | refine blk_alloc ?_ _)); exact BK249.out) Tryz.underlying26 rfl (by kernel_rfl)) rfl ?_
     exact ⟨_, by first | rfl | (simp [errW_none, errW_some] <;> rfl) | (simp [*, errW_none, errW_some] <;> rfl), by (with_reducible repeat (first | apply Kd.S_alloc | apply Kd.S_drewN | apply Kd.S_drew)); exact Kd.S_mono (Kd.S_far (p := ⟨gb249, 1, none⟩) (Kd.S_far (p := ⟨gb249, 0, none⟩) (Kd.S_types HO254.out BK249.out (by decide)) (fun _ hk => hk.2) (.int .i64 t251)) (fun _ hk => hk.2) (.slice Ao20 t252.length co20)) (fun _ hk => trivial), bl_⟩
    ·replace c14 := Bool.eq_false_iff.mpr c14
     subst c14
     have H1 : (impl_BaseTick.l0 kj4 l0_1 (l0_1.length : Int) 0 (wrap64 (a0_0 + a1)) (([] : List (S67)))) = some (r1, r2) := by rw [if_neg (show ¬ (false = true) by decide)] at H; exact H
     clear H
     have H := H1
     clear H1
     obtain ⟨y255, hy255⟩ : ∃ y_ : List (S67), y_ = (([] : List (S67))) := ⟨_, rfl⟩
     replace H : (impl_BaseTick.l0 kj4 l0_1 (l0_1.length : Int) 0 (wrap64 (a0_0 + a1)) y255) = some (r1, r2) := by first | (rw [hy255]; with_reducible exact H) | (have H2_ := (Option.bind_some _ _).symm.trans H; rw [hy255]; with_reducible exact H2_) | (have H2_ := (Option.bind_some _ _).symm.trans H; with_reducible exact H2_) | with_reducible exact H | (rw [hy255]; exact H) | exact H
     have Ny255 := Aside0.mk hy255
     clear hy255
     have H' := Aside0.mk H
     clear H
     have hnb21 := NB248_249.out
     have hnc21 := NB249_248.out
     have hcz22_0 : wc.cell? ⟨gb248, 0, none⟩ = some (.int .i64 a0_0) := (blk_cell BK248.out 0).trans rfl
     have hcz22_1 : wc.cell? ⟨gb248, 1, none⟩ = some (.slice A0_1 l0_1.length c0_1) := (blk_cell BK248.out 1).trans rfl
     have hfz22_0 := blk_frozen BK248.out 0
     have hfz22_1 := blk_frozen BK248.out 1
     go_wp2_with (first | ((with_reducible refine gate_dst (N := 27) rfl ?_); refine Kd.S_lit k67 _ 67 ?hg (N := 27) ?hd (xs := ([] : List (S67))) (inner := []) (ok := fun _ => True) (okp := fun _ => True) ?hr ?hp (fun _ hk => hk) trivial (Below.refl _ _) (Nat.le_refl _) (by simp) ?_; (case hd => rfl); (case hg => rfl); (case hr => first | (go_simp; done) | (go_simp; rfl)); (case hp => exact (Reps.none _ _)); intro v256 w23 ho24 hb hg_ hnew_; clear hg_ hnew_; (first | rw [← Ny255.out] at ho24 | (simp only [Int.reduceToNat] at ho24; rw [← Ny255.out] at ho24)); have n0_ := Aside0.mk (Kd.S_lower ho24 (below_size bl_)); have n1_ := Aside0.mk (blk_below (g := gb248) (o := .cells #[.int .i64 a0_0, .slice A0_1 l0_1.length c0_1] 26 (0, 0)) (bk_ BK248.out) hb); have n2_ := Aside0.mk (blk_below (g := gb249) (o := .cells #[.int .i64 0, .slice none 0 0] 26 (0, 0)) (bk_ BK249.out) hb); have n3_ := Aside0.mk (below_step bl_ hb); clear BK248; clear BK249; clear HB; have HO257 := n0_; have BK248 := n1_; have BK249 := n2_; have HB := n3_; clear n0_ n1_ n2_ n3_; clear hb ho24; obtain ⟨Ao25, co25, eo25⟩ := Kd.S_slice HO257.out; subst eo25) | ((with_reducible refine gate_dst (N := 5) rfl ?_); refine box_event ?hg (N := 5) ?hd (cs := #[.int .i64 0, .slice none 0 0]) (t := 26) ?hr ?_; (case hd => rfl); (case hg => rfl); (case hr => first | (go_simp; done) | (go_simp; rfl)); intro gb258 hg w26 hbox hb; have n0_ := Aside0.mk (Kd.S_below (by (with_reducible repeat (first | apply Kd.S_alloc | apply Kd.S_drewN | apply Kd.S_drew)); exact HO257.out) hb); have n1_ := Aside0.mk (blk_below (g := gb248) (o := .cells #[.int .i64 a0_0, .slice A0_1 l0_1.length c0_1] 26 (0, 0)) (bk_ BK248.out) hb); have n2_ := Aside0.mk (blk_below (g := gb249) (o := .cells #[.int .i64 0, .slice none 0 0] 26 (0, 0)) (bk_ BK249.out) hb); have n3_ := Aside0.mk (below_step bl_ hb); have n4_ := Aside0.mk (hbox); have n5_ := Aside0.mk ((by rw [hg]; exact (below_size bl_) : w.heap.size ≤ gb258)); have n6_ := Aside0.mk ((by rw [hg]; exact (below_size bl_) : w.heap.size ≤ gb258)); have n7_ := Aside0.mk ((by rw [hg]; exact Nat.ne_of_lt (blk_lt (g := gb248) (o := .cells #[.int .i64 a0_0, .slice A0_1 l0_1.length c0_1] 26 (0, 0)) (bk_ BK248.out)) : gb248 ≠ gb258)); have n8_ := Aside0.mk ((by rw [hg]; exact Nat.ne_of_gt (blk_lt (g := gb248) (o := .cells #[.int .i64 a0_0, .slice A0_1 l0_1.length c0_1] 26 (0, 0)) (bk_ BK248.out)) : gb258 ≠ gb248)); have n9_ := Aside0.mk ((by rw [hg]; exact Nat.ne_of_lt (blk_lt (g := gb249) (o := .cells #[.int .i64 0, .slice none 0 0] 26 (0, 0)) (bk_ BK249.out)) : gb249 ≠ gb258)); have n10_ := Aside0.mk ((by rw [hg]; exact Nat.ne_of_gt (blk_lt (g := gb249) (o := .cells #[.int .i64 0, .slice none 0 0] 26 (0, 0)) (bk_ BK249.out)) : gb258 ≠ gb249)); clear HO257; clear BK248; clear BK249; clear HB; have HO257 := n0_; have BK248 := n1_; have BK249 := n2_; have HB := n3_; have BK258 := n4_; have GW258 := n5_; have GE258 := n6_; have NB248_258 := n7_; have NB258_248 := n8_; have NB249_258 := n9_; have NB258_249 := n10_; clear n0_ n1_ n2_ n3_ n4_ n5_ n6_ n7_ n8_ n9_ n10_; clear hb hbox hg; have hnb27 := NB258_248.out; have hnc27 := NB248_258.out; have hnb28 := NB258_249.out; have hnc28 := NB249_258.out; have hcz29_0 : w26.cell? ⟨gb258, 0, none⟩ = some (.int .i64 0) := (blk_cell BK258.out 0).trans rfl; have hcz29_1 : w26.cell? ⟨gb258, 1, none⟩ = some (.slice none 0 0) := (blk_cell BK258.out 1).trans rfl; have hfz29_0 := blk_frozen BK258.out 0; have hfz29_1 := blk_frozen BK258.out 1; have hcz30_0 : w26.cell? ⟨gb248, 0, none⟩ = some (.int .i64 a0_0) := (blk_cell BK248.out 0).trans rfl; have hcz30_1 : w26.cell? ⟨gb248, 1, none⟩ = some (.slice A0_1 l0_1.length c0_1) := (blk_cell BK248.out 1).trans rfl; have hfz30_0 := blk_frozen BK248.out 0; have hfz30_1 := blk_frozen BK248.out 1))
     go_loopg [32] kj4 (fun kq v32 w' => ∃ (x32_2 : Int) (x259001_2 : List (S67)) (u259001 : Value), v32 = .int .i64 x32_2 ∧ Aside0 (impl_BaseTick.l0 kq l0_1 (l0_1.length : Int) x32_2 (wrap64 (a0_0 + a1)) x259001_2 = some (r1, r2)) ∧ Aside0 (kq ≤ kj4) ∧ Aside0 (Kd.S k67 67 w' w.heap.size (fun _ => True) u259001 x259001_2) ∧ Aside0 (w'.heap[gb248]? = some (.cells #[.int .i64 a0_0, (.slice A0_1 l0_1.length c0_1)] 26 (0, 0))) ∧ Aside0 (w'.heap[gb249]? = some (.cells #[.int .i64 0, (.slice none 0 0)] 26 (0, 0))) ∧ Aside0 (w'.heap[gb258]? = some (.cells #[.int .i64 (wrap64 (a0_0 + a1)), u259001] 26 (0, 0))) ∧ Aside0 (Below w.heap.size w w'))
     case atStart => exact ⟨(0), (y255), (.slice Ao25 y255.length co25), rs_, H', ⟨Nat.le_refl _⟩, ⟨by (with_reducible repeat (first | apply Kd.S_alloc | apply Kd.S_drewN | apply Kd.S_drew)); exact Kd.S_mono (Kd.S_far (p := ⟨gb258, 1, none⟩) (Kd.S_far (p := ⟨gb258, 0, none⟩) (Kd.S_types HO257.out BK258.out (by decide)) (fun _ hk => hk.2) (.int .i64 (wrap64 (a0_0 + a1)))) (fun _ hk => hk.2) (.slice Ao25 y255.length co25)) (fun _ hk => trivial)⟩, ⟨bf_ BK248.out⟩, ⟨bf_ BK249.out⟩, ⟨by (with_reducible repeat (first | refine blk_drewN ?_ _ | refine blk_drew ?_ | refine blk_alloc ?_ _)); refine blk_put (cs := #[.int .i64 (wrap64 (a0_0 + a1)), .slice none 0 0]) ?_ 1 _ rfl; (with_reducible repeat (first | refine blk_drewN ?_ _ | refine blk_drew ?_ | refine blk_alloc ?_ _)); refine blk_put (cs := #[.int .i64 0, .slice none 0 0]) ?_ 0 _ rfl; (with_reducible repeat (first | refine blk_drewN ?_ _ | refine blk_drew ?_ | refine blk_alloc ?_ _)); exact BK258.out⟩, ⟨bl_⟩⟩
     case round =>
      clear H'
      try clear c1
      try clear c2
      try clear p2
      try clear c3
      try clear c4
      try clear p6
      try clear c8
      try clear c11
      try clear c11b0
      try clear c12
      try clear c14
      try clear c16
      try clear c21
      try clear c27
      try clear c28
      try clear c29
      try clear hcz13_0
      try clear hcz13_1
      try clear hcz17_0
      try clear hcz17_1
      try clear hcz19_0
      try clear hcz19_1
      try clear hcz22_0
      try clear hcz22_1
      try clear hcz29_0
      try clear hcz29_1
      try clear hcz30_0
      try clear hcz30_1
      try clear hcz9_0
      try clear hcz9_1
      try clear hfz13_0
      try clear hfz13_1
      try clear hfz17_0
      try clear hfz17_1
      try clear hfz19_0
      try clear hfz19_1
      try clear hfz22_0
      try clear hfz22_1
      try clear hfz29_0
      try clear hfz29_1
      try clear hfz30_0
      try clear hfz30_1
      try clear hfz9_0
      try clear hfz9_1
      try clear p2
      try clear p6
      obtain ⟨x32_2, x259001_2, u259001, rfl, HA, HK2, HO_259001, BK248, BK249, BK258, HB⟩ := hrel
      cases gk with
      | zero => exact absurd HA.out (by simp [impl_BaseTick.l0])
      | succ k2 =>
       have H := HA.out
       clear HA
       simp only [impl_BaseTick.l0] at H
       by_cases c31 : x32_2 < (l0_1.length : Int)
       ·rw [if_pos c31] at H
        have c31b0 : decide (x32_2 < (l0_1.length : Int)) = true := decide_eq_true c31
        clear c31
        by_cases c32 : 0 ≤ x32_2
        ·rw [if_pos c32] at H
         have c32b0 : decide (0 ≤ x32_2) = true := decide_eq_true c32
         clear c32
         by_cases c33 : x32_2 < (l0_1.length : Int)
         ·rw [if_pos c33] at H
          have c33b0 : decide (x32_2 < (l0_1.length : Int)) = true := decide_eq_true c33
          clear c33
          by_cases c34 : ((rd_T67 l0_1 x32_2).f1) = 0
          ·rw [if_pos c34] at H
           have c34b0 : (((rd_T67 l0_1 x32_2).f1) == 0) = true := beq_iff_eq.mpr c34
           have c34b1 : (((rd_T67 l0_1 x32_2).f1) != 0) = false := bne_eq_false_iff_eq.mpr c34
           clear c34
           replace H := Option.bind_eq_some_iff.mp H
           obtain ⟨⟨t261, t262, t263, t264, t265, t268, t271⟩, A350, H⟩ := H
           replace H : (if x259001_2.length < 1172812402961 then (impl_BaseTick.l0 k2 l0_1 (l0_1.length : Int) (wrap64 (x32_2 + 1)) (wrap64 (a0_0 + a1)) (x259001_2 ++ [(⟨t261, t262, t263, t264, t265, t268, t271⟩ : S67)])) else (none)) = some (r1, r2) := H
           have A35 := Aside0.mk A350
           clear A350
           by_cases c36 : x259001_2.length < 1172812402961
           ·rw [if_pos c36] at H
            have LMc36 := Aside0.mk c36
            clear c36
            obtain ⟨y274, hy274⟩ : ∃ y_ : List (S67), y_ = (x259001_2 ++ [(⟨t261, t262, t263, t264, t265, t268, t271⟩ : S67)]) := ⟨_, rfl⟩
            replace H : (impl_BaseTick.l0 k2 l0_1 (l0_1.length : Int) (wrap64 (x32_2 + 1)) (wrap64 (a0_0 + a1)) y274) = some (r1, r2) := by first | (rw [hy274]; with_reducible exact H) | (have H2_ := (Option.bind_some _ _).symm.trans H; rw [hy274]; with_reducible exact H2_) | (have H2_ := (Option.bind_some _ _).symm.trans H; with_reducible exact H2_) | with_reducible exact H | (rw [hy274]; exact H) | exact H
            have Ny274 := Aside0.mk hy274
            clear hy274
            have H' := Aside0.mk H
            clear H
            have p259 : 0 ≤ (x32_2 : Int) := od_
            have q259 : x32_2 < (l0_1.length : Int) := od_
            obtain ⟨ad259, A259_4, c259_4, A259_5, c259_5, A259_6, c259_6, e259, hx259_0, hx259_1, hx259_2, hx259_3, hx259_4, hx259_5, hx259_6, hl259_4, hi259_4, hl259_5, hi259_5, hl259_6, hi259_6⟩ := at_T67 HR0_1.out x32_2 p259 q259
            cases e259
            replace hx259_0 := (HB.out.cell (World.block_lt_of_cell? w _ hx259_0)).trans hx259_0
            replace hx259_1 := (HB.out.cell (World.block_lt_of_cell? w _ hx259_1)).trans hx259_1
            replace hx259_2 := (HB.out.cell (World.block_lt_of_cell? w _ hx259_2)).trans hx259_2
            replace hx259_3 := (HB.out.cell (World.block_lt_of_cell? w _ hx259_3)).trans hx259_3
            replace hx259_4 := (HB.out.cell (World.block_lt_of_cell? w _ hx259_4)).trans hx259_4
            replace hx259_5 := (HB.out.cell (World.block_lt_of_cell? w _ hx259_5)).trans hx259_5
            replace hx259_6 := (HB.out.cell (World.block_lt_of_cell? w _ hx259_6)).trans hx259_6
            have HR259_4 := Aside0.mk hi259_4
            have HC259_4 := Aside0.mk hl259_4
            clear hi259_4 hl259_4
            have HR259_5 := Aside0.mk hi259_5
            have HC259_5 := Aside0.mk hl259_5
            clear hi259_5 hl259_5
            have HR259_6 := Aside0.mk hi259_6
            have HC259_6 := Aside0.mk hl259_6
            clear hi259_6 hl259_6
            replace p259 := eq_true p259
            replace q259 := eq_true q259
            try go_wp2_with (first | ((with_reducible refine gate_dst (N := 7) rfl ?_); refine box_event ?hg (N := 7) ?hd (cs := #[.string (⟨#[]⟩ : ByteArray), .int .i64 0, .int .i64 0, .string (⟨#[]⟩ : ByteArray), .slice none 0 0, .slice none 0 0, .slice none 0 0]) (t := 67) ?hr ?_; (case hd => rfl); (case hg => rfl); (case hr => first | (go_simp; done) | (go_simp; rfl)); intro gb260 hg w37 hbox hb; have n0_ := Aside0.mk (Kd.S_below (Kd.S_elderB (by (with_reducible repeat (first | apply Kd.S_alloc | apply Kd.S_drewN | apply Kd.S_drew)); exact HO_259001.out) gb260 (Nat.le_of_eq hg.symm)) hb); have n1_ := Aside0.mk (blk_below (g := gb248) (o := .cells #[.int .i64 a0_0, .slice (some ad259) l0_1.length c0_1] 26 (0, 0)) (bk_ BK248.out) hb); have n2_ := Aside0.mk (blk_below (g := gb249) (o := .cells #[.int .i64 0, .slice none 0 0] 26 (0, 0)) (bk_ BK249.out) hb); have n3_ := Aside0.mk (blk_below (g := gb258) (o := .cells #[.int .i64 (wrap64 (a0_0 + a1)), u259001] 26 (0, 0)) (bk_ BK258.out) hb); have n4_ := Aside0.mk (below_step bl_ hb); have n5_ := Aside0.mk (hbox); have n6_ := Aside0.mk ((by rw [hg]; exact (below_size bl_) : w.heap.size ≤ gb260)); have n7_ := Aside0.mk ((by rw [hg]; exact (below_size bl_) : w.heap.size ≤ gb260)); have n8_ := Aside0.mk ((by rw [hg]; exact Nat.ne_of_lt (blk_lt (g := gb248) (o := .cells #[.int .i64 a0_0, .slice (some ad259) l0_1.length c0_1] 26 (0, 0)) (bk_ BK248.out)) : gb248 ≠ gb260)); have n9_ := Aside0.mk ((by rw [hg]; exact Nat.ne_of_gt (blk_lt (g := gb248) (o := .cells #[.int .i64 a0_0, .slice (some ad259) l0_1.length c0_1] 26 (0, 0)) (bk_ BK248.out)) : gb260 ≠ gb248)); have n10_ := Aside0.mk ((by rw [hg]; exact Nat.ne_of_lt (blk_lt (g := gb249) (o := .cells #[.int .i64 0, .slice none 0 0] 26 (0, 0)) (bk_ BK249.out)) : gb249 ≠ gb260)); have n11_ := Aside0.mk ((by rw [hg]; exact Nat.ne_of_gt (blk_lt (g := gb249) (o := .cells #[.int .i64 0, .slice none 0 0] 26 (0, 0)) (bk_ BK249.out)) : gb260 ≠ gb249)); have n12_ := Aside0.mk ((by rw [hg]; exact Nat.ne_of_lt (blk_lt (g := gb258) (o := .cells #[.int .i64 (wrap64 (a0_0 + a1)), u259001] 26 (0, 0)) (bk_ BK258.out)) : gb258 ≠ gb260)); have n13_ := Aside0.mk ((by rw [hg]; exact Nat.ne_of_gt (blk_lt (g := gb258) (o := .cells #[.int .i64 (wrap64 (a0_0 + a1)), u259001] 26 (0, 0)) (bk_ BK258.out)) : gb260 ≠ gb258)); clear HO_259001; clear BK248; clear BK249; clear BK258; clear HB; have HO_259001 := n0_; have BK248 := n1_; have BK249 := n2_; have BK258 := n3_; have HB := n4_; have BK260 := n5_; have GW260 := n6_; have GE260 := n7_; have NB248_260 := n8_; have NB260_248 := n9_; have NB249_260 := n10_; have NB260_249 := n11_; have NB258_260 := n12_; have NB260_258 := n13_; clear n0_ n1_ n2_ n3_ n4_ n5_ n6_ n7_ n8_ n9_ n10_ n11_ n12_ n13_; clear hb hbox hg; have hnb38 := NB260_248.out; have hnc38 := NB248_260.out; have hnb39 := NB260_249.out; have hnc39 := NB249_260.out; have hnb40 := NB260_258.out; have hnc40 := NB258_260.out; have hcz41_0 : w37.cell? ⟨gb260, 0, none⟩ = some (.string (⟨#[]⟩ : ByteArray)) := (blk_cell BK260.out 0).trans rfl; have hcz41_1 : w37.cell? ⟨gb260, 1, none⟩ = some (.int .i64 0) := (blk_cell BK260.out 1).trans rfl; have hcz41_2 : w37.cell? ⟨gb260, 2, none⟩ = some (.int .i64 0) := (blk_cell BK260.out 2).trans rfl; have hcz41_3 : w37.cell? ⟨gb260, 3, none⟩ = some (.string (⟨#[]⟩ : ByteArray)) := (blk_cell BK260.out 3).trans rfl; have hcz41_4 : w37.cell? ⟨gb260, 4, none⟩ = some (.slice none 0 0) := (blk_cell BK260.out 4).trans rfl; have hcz41_5 : w37.cell? ⟨gb260, 5, none⟩ = some (.slice none 0 0) := (blk_cell BK260.out 5).trans rfl; have hcz41_6 : w37.cell? ⟨gb260, 6, none⟩ = some (.slice none 0 0) := (blk_cell BK260.out 6).trans rfl; have hfz41_0 := blk_frozen BK260.out 0; have hfz41_1 := blk_frozen BK260.out 1; have hfz41_2 := blk_frozen BK260.out 2; have hfz41_3 := blk_frozen BK260.out 3; have hfz41_4 := blk_frozen BK260.out 4; have hfz41_5 := blk_frozen BK260.out 5; have hfz41_6 := blk_frozen BK260.out 6))
            have n0_ : Aside0 (Kd.S k67 67 (((((((w37.setCell ⟨gb260, 0, none⟩ (.string ((rd_T67 l0_1 x32_2).f0))).setCell ⟨gb260, 1, none⟩ (.int .i64 ((rd_T67 l0_1 x32_2).f1))).setCell ⟨gb260, 2, none⟩ (.int .i64 ((rd_T67 l0_1 x32_2).f2))).setCell ⟨gb260, 3, none⟩ (.string ((rd_T67 l0_1 x32_2).f3))).setCell ⟨gb260, 4, none⟩ (.slice A259_4 ((rd_T67 l0_1 x32_2).f4).length c259_4)).setCell ⟨gb260, 5, none⟩ (.slice A259_5 ((rd_T67 l0_1 x32_2).f5).length c259_5)).setCell ⟨gb260, 6, none⟩ (.slice A259_6 ((rd_T67 l0_1 x32_2).f6).length c259_6)) w.heap.size (fun k_ => k_ ≠ gb260) u259001 x259001_2) := ⟨by (with_reducible repeat (first | apply Kd.S_alloc | apply Kd.S_drewN | apply Kd.S_drew)); exact Kd.S_mono (Kd.S_far (p := ⟨gb260, 6, none⟩) (Kd.S_far (p := ⟨gb260, 5, none⟩) (Kd.S_far (p := ⟨gb260, 4, none⟩) (Kd.S_far (p := ⟨gb260, 3, none⟩) (Kd.S_far (p := ⟨gb260, 2, none⟩) (Kd.S_far (p := ⟨gb260, 1, none⟩) (Kd.S_far (p := ⟨gb260, 0, none⟩) (Kd.S_mono HO_259001.out (fun k_ hk => (⟨hk, hk.2⟩ : _ ∧ k_ ≠ gb260))) (fun _ hk => hk.2) (.string ((rd_T67 l0_1 x32_2).f0))) (fun _ hk => hk.2) (.int .i64 ((rd_T67 l0_1 x32_2).f1))) (fun _ hk => hk.2) (.int .i64 ((rd_T67 l0_1 x32_2).f2))) (fun _ hk => hk.2) (.string ((rd_T67 l0_1 x32_2).f3))) (fun _ hk => hk.2) (.slice A259_4 ((rd_T67 l0_1 x32_2).f4).length c259_4)) (fun _ hk => hk.2) (.slice A259_5 ((rd_T67 l0_1 x32_2).f5).length c259_5)) (fun _ hk => hk.2) (.slice A259_6 ((rd_T67 l0_1 x32_2).f6).length c259_6)) (fun _ hk => hk.1.2)⟩
            have n1_ : Aside0 ((((((((w37.setCell ⟨gb260, 0, none⟩ (.string ((rd_T67 l0_1 x32_2).f0))).setCell ⟨gb260, 1, none⟩ (.int .i64 ((rd_T67 l0_1 x32_2).f1))).setCell ⟨gb260, 2, none⟩ (.int .i64 ((rd_T67 l0_1 x32_2).f2))).setCell ⟨gb260, 3, none⟩ (.string ((rd_T67 l0_1 x32_2).f3))).setCell ⟨gb260, 4, none⟩ (.slice A259_4 ((rd_T67 l0_1 x32_2).f4).length c259_4)).setCell ⟨gb260, 5, none⟩ (.slice A259_5 ((rd_T67 l0_1 x32_2).f5).length c259_5)).setCell ⟨gb260, 6, none⟩ (.slice A259_6 ((rd_T67 l0_1 x32_2).f6).length c259_6)).heap[gb248]? = some (.cells #[.int .i64 a0_0, .slice (some ad259) l0_1.length c0_1] 26 (0, 0))) := ⟨bf_ BK248.out⟩
            have n2_ : Aside0 ((((((((w37.setCell ⟨gb260, 0, none⟩ (.string ((rd_T67 l0_1 x32_2).f0))).setCell ⟨gb260, 1, none⟩ (.int .i64 ((rd_T67 l0_1 x32_2).f1))).setCell ⟨gb260, 2, none⟩ (.int .i64 ((rd_T67 l0_1 x32_2).f2))).setCell ⟨gb260, 3, none⟩ (.string ((rd_T67 l0_1 x32_2).f3))).setCell ⟨gb260, 4, none⟩ (.slice A259_4 ((rd_T67 l0_1 x32_2).f4).length c259_4)).setCell ⟨gb260, 5, none⟩ (.slice A259_5 ((rd_T67 l0_1 x32_2).f5).length c259_5)).setCell ⟨gb260, 6, none⟩ (.slice A259_6 ((rd_T67 l0_1 x32_2).f6).length c259_6)).heap[gb249]? = some (.cells #[.int .i64 0, .slice none 0 0] 26 (0, 0))) := ⟨bf_ BK249.out⟩
            have n3_ : Aside0 ((((((((w37.setCell ⟨gb260, 0, none⟩ (.string ((rd_T67 l0_1 x32_2).f0))).setCell ⟨gb260, 1, none⟩ (.int .i64 ((rd_T67 l0_1 x32_2).f1))).setCell ⟨gb260, 2, none⟩ (.int .i64 ((rd_T67 l0_1 x32_2).f2))).setCell ⟨gb260, 3, none⟩ (.string ((rd_T67 l0_1 x32_2).f3))).setCell ⟨gb260, 4, none⟩ (.slice A259_4 ((rd_T67 l0_1 x32_2).f4).length c259_4)).setCell ⟨gb260, 5, none⟩ (.slice A259_5 ((rd_T67 l0_1 x32_2).f5).length c259_5)).setCell ⟨gb260, 6, none⟩ (.slice A259_6 ((rd_T67 l0_1 x32_2).f6).length c259_6)).heap[gb258]? = some (.cells #[.int .i64 (wrap64 (a0_0 + a1)), u259001] 26 (0, 0))) := ⟨bf_ BK258.out⟩
            have n4_ : Aside0 ((((((((w37.setCell ⟨gb260, 0, none⟩ (.string ((rd_T67 l0_1 x32_2).f0))).setCell ⟨gb260, 1, none⟩ (.int .i64 ((rd_T67 l0_1 x32_2).f1))).setCell ⟨gb260, 2, none⟩ (.int .i64 ((rd_T67 l0_1 x32_2).f2))).setCell ⟨gb260, 3, none⟩ (.string ((rd_T67 l0_1 x32_2).f3))).setCell ⟨gb260, 4, none⟩ (.slice A259_4 ((rd_T67 l0_1 x32_2).f4).length c259_4)).setCell ⟨gb260, 5, none⟩ (.slice A259_5 ((rd_T67 l0_1 x32_2).f5).length c259_5)).setCell ⟨gb260, 6, none⟩ (.slice A259_6 ((rd_T67 l0_1 x32_2).f6).length c259_6)).heap[gb260]? = some (.cells #[.string ((rd_T67 l0_1 x32_2).f0), .int .i64 ((rd_T67 l0_1 x32_2).f1), .int .i64 ((rd_T67 l0_1 x32_2).f2), .string ((rd_T67 l0_1 x32_2).f3), .slice A259_4 ((rd_T67 l0_1 x32_2).f4).length c259_4, .slice A259_5 ((rd_T67 l0_1 x32_2).f5).length c259_5, .slice A259_6 ((rd_T67 l0_1 x32_2).f6).length c259_6] 67 (0, 0))) := ⟨by (with_reducible repeat (first | refine blk_drewN ?_ _ | refine blk_drew ?_ | refine blk_alloc ?_ _)); refine blk_put (cs := #[.string ((rd_T67 l0_1 x32_2).f0), .int .i64 ((rd_T67 l0_1 x32_2).f1), .int .i64 ((rd_T67 l0_1 x32_2).f2), .string ((rd_T67 l0_1 x32_2).f3), .slice A259_4 ((rd_T67 l0_1 x32_2).f4).length c259_4, .slice A259_5 ((rd_T67 l0_1 x32_2).f5).length c259_5, .slice none 0 0]) ?_ 6 _ rfl; (with_reducible repeat (first | refine blk_drewN ?_ _ | refine blk_drew ?_ | refine blk_alloc ?_ _)); refine blk_put (cs := #[.string ((rd_T67 l0_1 x32_2).f0), .int .i64 ((rd_T67 l0_1 x32_2).f1), .int .i64 ((rd_T67 l0_1 x32_2).f2), .string ((rd_T67 l0_1 x32_2).f3), .slice A259_4 ((rd_T67 l0_1 x32_2).f4).length c259_4, .slice none 0 0, .slice none 0 0]) ?_ 5 _ rfl; (with_reducible repeat (first | refine blk_drewN ?_ _ | refine blk_drew ?_ | refine blk_alloc ?_ _)); refine blk_put (cs := #[.string ((rd_T67 l0_1 x32_2).f0), .int .i64 ((rd_T67 l0_1 x32_2).f1), .int .i64 ((rd_T67 l0_1 x32_2).f2), .string ((rd_T67 l0_1 x32_2).f3), .slice none 0 0, .slice none 0 0, .slice none 0 0]) ?_ 4 _ rfl; (with_reducible repeat (first | refine blk_drewN ?_ _ | refine blk_drew ?_ | refine blk_alloc ?_ _)); refine blk_put (cs := #[.string ((rd_T67 l0_1 x32_2).f0), .int .i64 ((rd_T67 l0_1 x32_2).f1), .int .i64 ((rd_T67 l0_1 x32_2).f2), .string (⟨#[]⟩ : ByteArray), .slice none 0 0, .slice none 0 0, .slice none 0 0]) ?_ 3 _ rfl; (with_reducible repeat (first | refine blk_drewN ?_ _ | refine blk_drew ?_ | refine blk_alloc ?_ _)); refine blk_put (cs := #[.string ((rd_T67 l0_1 x32_2).f0), .int .i64 ((rd_T67 l0_1 x32_2).f1), .int .i64 0, .string (⟨#[]⟩ : ByteArray), .slice none 0 0, .slice none 0 0, .slice none 0 0]) ?_ 2 _ rfl; (with_reducible repeat (first | refine blk_drewN ?_ _ | refine blk_drew ?_ | refine blk_alloc ?_ _)); refine blk_put (cs := #[.string ((rd_T67 l0_1 x32_2).f0), .int .i64 0, .int .i64 0, .string (⟨#[]⟩ : ByteArray), .slice none 0 0, .slice none 0 0, .slice none 0 0]) ?_ 1 _ rfl; (with_reducible repeat (first | refine blk_drewN ?_ _ | refine blk_drew ?_ | refine blk_alloc ?_ _)); refine blk_put (cs := #[.string (⟨#[]⟩ : ByteArray), .int .i64 0, .int .i64 0, .string (⟨#[]⟩ : ByteArray), .slice none 0 0, .slice none 0 0, .slice none 0 0]) ?_ 0 _ rfl; (with_reducible repeat (first | refine blk_drewN ?_ _ | refine blk_drew ?_ | refine blk_alloc ?_ _)); exact BK260.out⟩
            have n5_ : Aside0 (Below w.heap.size w (((((((w37.setCell ⟨gb260, 0, none⟩ (.string ((rd_T67 l0_1 x32_2).f0))).setCell ⟨gb260, 1, none⟩ (.int .i64 ((rd_T67 l0_1 x32_2).f1))).setCell ⟨gb260, 2, none⟩ (.int .i64 ((rd_T67 l0_1 x32_2).f2))).setCell ⟨gb260, 3, none⟩ (.string ((rd_T67 l0_1 x32_2).f3))).setCell ⟨gb260, 4, none⟩ (.slice A259_4 ((rd_T67 l0_1 x32_2).f4).length c259_4)).setCell ⟨gb260, 5, none⟩ (.slice A259_5 ((rd_T67 l0_1 x32_2).f5).length c259_5)).setCell ⟨gb260, 6, none⟩ (.slice A259_6 ((rd_T67 l0_1 x32_2).f6).length c259_6))) := ⟨bl_⟩
            (try clear HO_259001)
            (try clear BK248)
            (try clear BK249)
            (try clear BK258)
            (try clear BK260)
            (try clear HB)
            generalize (((((((w37.setCell ⟨gb260, 0, none⟩ (.string ((rd_T67 l0_1 x32_2).f0))).setCell ⟨gb260, 1, none⟩ (.int .i64 ((rd_T67 l0_1 x32_2).f1))).setCell ⟨gb260, 2, none⟩ (.int .i64 ((rd_T67 l0_1 x32_2).f2))).setCell ⟨gb260, 3, none⟩ (.string ((rd_T67 l0_1 x32_2).f3))).setCell ⟨gb260, 4, none⟩ (.slice A259_4 ((rd_T67 l0_1 x32_2).f4).length c259_4)).setCell ⟨gb260, 5, none⟩ (.slice A259_5 ((rd_T67 l0_1 x32_2).f5).length c259_5)).setCell ⟨gb260, 6, none⟩ (.slice A259_6 ((rd_T67 l0_1 x32_2).f6).length c259_6)) = w42 at n0_ n1_ n2_ n3_ n4_ n5_ ⊢
            have HO_259001 := n0_
            have BK248 := n1_
            have BK249 := n2_
            have BK258 := n3_
            have BK260 := n4_
            have HB := n5_
            clear n0_ n1_ n2_ n3_ n4_ n5_
            have n0_ := Aside0.mk (Kd.S_drew HO_259001.out)
            have n1_ := Aside0.mk (blk_drew BK248.out)
            have n2_ := Aside0.mk (blk_drew BK249.out)
            have n3_ := Aside0.mk (blk_drew BK258.out)
            have n4_ := Aside0.mk (blk_drew BK260.out)
            have n5_ := Aside0.mk (below_drew1 HB.out)
            clear HO_259001
            clear BK248
            clear BK249
            clear BK258
            clear BK260
            clear HB
            have HO_259001 := n0_
            have BK248 := n1_
            have BK249 := n2_
            have BK258 := n3_
            have BK260 := n4_
            have HB := n5_
            clear n0_ n1_ n2_ n3_ n4_ n5_
            refine start_ (n := 8) (S := fun w' => w'.cell? ⟨gb258, 0, none⟩ = some (.int .i64 (wrap64 (a0_0 + a1))) ∧ w'.cell? ⟨gb258, 1, none⟩ = some (u259001) ∧ w'.cell? ⟨gb260, 0, none⟩ = some (.string ((rd_T67 l0_1 x32_2).f0)) ∧ w'.cell? ⟨gb260, 1, none⟩ = some (.int .i64 ((rd_T67 l0_1 x32_2).f1)) ∧ w'.cell? ⟨gb260, 2, none⟩ = some (.int .i64 ((rd_T67 l0_1 x32_2).f2)) ∧ w'.cell? ⟨gb260, 3, none⟩ = some (.string ((rd_T67 l0_1 x32_2).f3)) ∧ w'.cell? ⟨gb260, 4, none⟩ = some (.slice A259_4 ((rd_T67 l0_1 x32_2).f4).length c259_4) ∧ w'.cell? ⟨gb260, 5, none⟩ = some (.slice A259_5 ((rd_T67 l0_1 x32_2).f5).length c259_5) ∧ w'.cell? ⟨gb260, 6, none⟩ = some (.slice A259_6 ((rd_T67 l0_1 x32_2).f6).length c259_6)) (ds := [7]) #[false, false, false, false, false, false, false, false] (by kernel_rfl) rfl rfl ⟨(blk_cell BK258.out 0).trans rfl, (blk_cell BK258.out 1).trans rfl, (blk_cell BK260.out 0).trans rfl, (blk_cell BK260.out 1).trans rfl, (blk_cell BK260.out 2).trans rfl, (blk_cell BK260.out 3).trans rfl, (blk_cell BK260.out 4).trans rfl, (blk_cell BK260.out 5).trans rfl, (blk_cell BK260.out 6).trans rfl⟩ (fun hHeld => ?_); refine with_tabW impl_BaseTick.tab10 impl_BaseTick.bits10 (fun HT_ HW_ => ?_)
            generalize w42.drew = w43 at HO_259001 BK248 BK249 BK258 BK260 HB hHeld ⊢
            refine pure_ (i := 0) (N := some 46) (v := ?_) (a' := ?_) #[true, false, false, false, false, false, false, false] rfl rfl (any_of HT_.out (by kernel_rfl)) (fun _ _ _ h => h) (Or.inl ⟨by rfl, ?_⟩) ?_ ?_
            rotate_left
            ·intro w'
             go_simp
             with_reducible rfl
            rotate_left
            ·simp only [Act.put, List.setIfInBounds_toArray, List.set_cons_zero, List.set_cons_succ, i64_w, i32_w]
             rfl
            refine take_ (i := 1) (N := some 47) (v := ?_) (a' := ?_) #[true, true, false, false, false, false, false, false] rfl rfl (take_ofW HT_.out HW_.out (by kernel_rfl)) (fun _ _ _ h => h) (Or.inl ⟨by rfl, ?_⟩) hHeld ?_ ?_
            rotate_left
            ·rintro w' ⟨s0, s1, s2, s3, s4, s5, s6, s7, s8⟩
             go_simp
             with_reducible rfl
            rotate_left
            ·simp only [Act.put, List.setIfInBounds_toArray, List.set_cons_zero, List.set_cons_succ, i64_w, i32_w]
             rfl
            refine take_ (i := 2) (N := some 48) (v := ?_) (a' := ?_) #[true, true, true, false, false, false, false, false] rfl rfl (take_ofW HT_.out HW_.out (by kernel_rfl)) (fun _ _ _ h => h) (Or.inl ⟨by rfl, ?_⟩) hHeld ?_ ?_
            rotate_left
            ·rintro w' ⟨s0, s1, s2, s3, s4, s5, s6, s7, s8⟩
             go_simp
             with_reducible rfl
            rotate_left
            ·simp only [Act.put, List.setIfInBounds_toArray, List.set_cons_zero, List.set_cons_succ, i64_w, i32_w]
             rfl
            refine one_ (i := 3) (N := some 49) #[true, true, true, true, false, false, false, false] rfl rfl (one_of HT_.out (by kernel_rfl)) (by decide) (fun K hK => ?_)
            refine goes_ Tryz.func45 (by kernel_rfl) rfl #[.agg #[.string ((rd_T67 l0_1 x32_2).f0), .int .i64 ((rd_T67 l0_1 x32_2).f1), .int .i64 ((rd_T67 l0_1 x32_2).f2), .string ((rd_T67 l0_1 x32_2).f3), .slice A259_4 ((rd_T67 l0_1 x32_2).f4).length c259_4, .slice A259_5 ((rd_T67 l0_1 x32_2).f5).length c259_5, .slice A259_6 ((rd_T67 l0_1 x32_2).f6).length c259_6]] (by rfl) rfl rfl ga_ ?_
            with_reducible refine (impl_cloneEntry.calls ((rd_T67 l0_1 x32_2).f0) ((rd_T67 l0_1 x32_2).f1) ((rd_T67 l0_1 x32_2).f2) ((rd_T67 l0_1 x32_2).f3) _ _ ((rd_T67 l0_1 x32_2).f4) _ _ ((rd_T67 l0_1 x32_2).f5) _ _ ((rd_T67 l0_1 x32_2).f6) t261 t262 t263 t264 t265 t268 t271 _ ?side1 ?side2 ?side3 ?side4 ?side5 ?side6 A35.out).mono ?_
            (case side1 => repeat (first | exact (Kd.C_below HR259_4.out HB.out) | (with_reducible refine Kd.C_alloc ?_ _) | (with_reducible refine Kd.C_drewN ?_ _) | (with_reducible refine Kd.C_drew ?_)))
            (case side2 => exact HC259_4.out)
            (case side3 => repeat (first | exact (Kd.C_below HR259_5.out HB.out) | (with_reducible refine Kd.C_alloc ?_ _) | (with_reducible refine Kd.C_drewN ?_ _) | (with_reducible refine Kd.C_drew ?_)))
            (case side4 => exact HC259_5.out)
            (case side5 => repeat (first | exact (Kd.C_below HR259_6.out HB.out) | (with_reducible refine Kd.C_alloc ?_ _) | (with_reducible refine Kd.C_drewN ?_ _) | (with_reducible refine Kd.C_drew ?_)))
            (case side6 => exact HC259_6.out)
            rintro e w44 ⟨v266, v269, v272, rfl, ho0, ho1, ho2, hb⟩
            refine ⟨_, rfl, ?_⟩
            have n0_ := Aside0.mk (Kd.S_mono (Kd.S_told (Kd.S_told (Kd.S_told (Kd.S_old (by (with_reducible repeat (first | apply Kd.S_alloc | apply Kd.S_drewN | apply Kd.S_drew)); exact HO_259001.out) hb) (Kd.R_base ho0)) (Kd.R_base ho1)) (Kd.R_base ho2)) (fun _ h_ => h_.1))
            have n1_ := Aside0.mk (Kd.R_lower ho0 (below_size bl_))
            have n2_ := Aside0.mk (Kd.R_lower ho1 (below_size bl_))
            have n3_ := Aside0.mk (Kd.R_lower ho2 (below_size bl_))
            have n4_ := Aside0.mk (blk_below (g := gb248) (o := .cells #[.int .i64 a0_0, .slice (some ad259) l0_1.length c0_1] 26 (0, 0)) (bk_ BK248.out) hb)
            have n5_ := Aside0.mk (blk_below (g := gb249) (o := .cells #[.int .i64 0, .slice none 0 0] 26 (0, 0)) (bk_ BK249.out) hb)
            have n6_ := Aside0.mk (blk_below (g := gb258) (o := .cells #[.int .i64 (wrap64 (a0_0 + a1)), u259001] 26 (0, 0)) (bk_ BK258.out) hb)
            have n7_ := Aside0.mk (blk_below (g := gb260) (o := .cells #[.string ((rd_T67 l0_1 x32_2).f0), .int .i64 ((rd_T67 l0_1 x32_2).f1), .int .i64 ((rd_T67 l0_1 x32_2).f2), .string ((rd_T67 l0_1 x32_2).f3), .slice A259_4 ((rd_T67 l0_1 x32_2).f4).length c259_4, .slice A259_5 ((rd_T67 l0_1 x32_2).f5).length c259_5, .slice A259_6 ((rd_T67 l0_1 x32_2).f6).length c259_6] 67 (0, 0)) (bk_ BK260.out) hb)
            have n8_ := Aside0.mk (below_step bl_ hb)
            clear HO_259001
            clear BK248
            clear BK249
            clear BK258
            clear BK260
            clear HB
            have HO_259001 := n0_
            have HO267 := n1_
            have HO270 := n2_
            have HO273 := n3_
            have BK248 := n4_
            have BK249 := n5_
            have BK258 := n6_
            have BK260 := n7_
            have HB := n8_
            clear n0_ n1_ n2_ n3_ n4_ n5_ n6_ n7_ n8_
            (try clear hb)
            (try clear hb2)
            (try clear hk)
            (try clear hi)
            (try clear ho0)
            (try clear ho1)
            (try clear ho2)
            obtain ⟨Ao46, co46, eo46⟩ := Kd.R_slice HO267.out
            (first | subst eo46 | (injection eo46 with f1_ f2_ f3_; have f4_ := f1_.symm; have f5_ := f3_.symm; clear f1_ f2_ f3_; subst f4_; subst f5_))
            obtain ⟨Ao47, co47, eo47⟩ := Kd.R_slice HO270.out
            (first | subst eo47 | (injection eo47 with f1_ f2_ f3_; have f4_ := f1_.symm; have f5_ := f3_.symm; clear f1_ f2_ f3_; subst f4_; subst f5_))
            obtain ⟨Ao48, co48, eo48⟩ := Kd.R_slice HO273.out
            (first | subst eo48 | (injection eo48 with f1_ f2_ f3_; have f4_ := f1_.symm; have f5_ := f3_.symm; clear f1_ f2_ f3_; subst f4_; subst f5_))
            refine hK.out _ _ ⟨(blk_cell BK258.out 0).trans rfl, (blk_cell BK258.out 1).trans rfl, (blk_cell BK260.out 0).trans rfl, (blk_cell BK260.out 1).trans rfl, (blk_cell BK260.out 2).trans rfl, (blk_cell BK260.out 3).trans rfl, (blk_cell BK260.out 4).trans rfl, (blk_cell BK260.out 5).trans rfl, (blk_cell BK260.out 6).trans rfl⟩ (fun hHeld => ?_)
            clear hK K
            refine norm_ (a' := ?_) ?_ ?_
            rotate_left
            ·show Act.put _ (some 49) _ = _
             simp only [Act.put, List.setIfInBounds_toArray, List.set_cons_zero, List.set_cons_succ, i64_w, i32_w]
             rfl
            refine one_ (i := 4) (N := some 50) #[true, true, true, true, true, false, false, false] rfl rfl (one_of HT_.out (by kernel_rfl)) (by decide) (fun K hK => ?_)
            refine value_ (w1 := ?_) (v := ?_) (by rfl) rfl ?_ ?_
            rotate_left 2
            ·go_simp
             constructor
             ·rfl
             ·rfl
            refine hK.out _ _ ⟨(blk_cell (blk_alloc BK258.out _) 0).trans rfl, (blk_cell (blk_alloc BK258.out _) 1).trans rfl, (blk_cell (blk_alloc BK260.out _) 0).trans rfl, (blk_cell (blk_alloc BK260.out _) 1).trans rfl, (blk_cell (blk_alloc BK260.out _) 2).trans rfl, (blk_cell (blk_alloc BK260.out _) 3).trans rfl, (blk_cell (blk_alloc BK260.out _) 4).trans rfl, (blk_cell (blk_alloc BK260.out _) 5).trans rfl, (blk_cell (blk_alloc BK260.out _) 6).trans rfl⟩ (fun hHeld => ?_)
            clear hK K
            refine norm_ (a' := ?_) ?_ ?_
            rotate_left
            ·show Act.put _ (some 50) _ = _
             simp only [Act.put, List.setIfInBounds_toArray, List.set_cons_zero, List.set_cons_succ, i64_w, i32_w]
             rfl
            refine one_ (i := 5) (N := some 51) #[true, true, true, true, true, true, false, false] rfl rfl (one_of HT_.out (by kernel_rfl)) (by decide) (fun K hK => ?_)
            refine Kd.S_append_step k67 (w0 := w) w.heap.size (by rfl) (.tmp 47) (.tmp 50) 24 67 (.agg #[(.string ⟨#[]⟩), (.int .i64 0), (.int .i64 0), (.string ⟨#[]⟩), (.slice none 0 0), (.slice none 0 0), (.slice none 0 0)]) 120 rfl Tryz.underlying24 info67 rfl (by decide) (by omega) u259001 x259001_2 (⟨t261, t262, t263, t264, t265, t268, t271⟩ : S67) [.string t261, .int .i64 t262, .int .i64 t263, .string t264, .slice Ao46 t265.length co46, .slice Ao47 t268.length co47, .slice Ao48 t271.length co48] (fun k_ => k_ ≠ gb260) (fun k_ => some k_ = (.slice Ao46 t265.length co46 : Value).ownBlock ∨ some k_ = (.slice Ao47 t268.length co47 : Value).ownBlock ∨ some k_ = (.slice Ao48 t271.length co48 : Value).ownBlock) rfl rfl ?aP (fun k_ hk_ => hk_.elim (fun h_ => ((Kd.R_mono (ok' := fun k_ => ((fun k_ => k_ ≠ gb260)) k_ ∧ some k_ ≠ (u259001 : Value).ownBlock) (Kd.R_types (Kd.R_apart' (HO267.out) (Kd.S_typed HO_259001.out) (by decide)) BK260.out (by decide)) (fun k_ hk => ⟨hk.2, hk.1.2⟩))).1 k_ h_.symm) (fun h_ => h_.elim (fun h_ => ((Kd.R_mono (ok' := fun k_ => ((fun k_ => k_ ≠ gb260)) k_ ∧ some k_ ≠ (u259001 : Value).ownBlock) (Kd.R_types (Kd.R_apart' (HO270.out) (Kd.S_typed HO_259001.out) (by decide)) BK260.out (by decide)) (fun k_ hk => ⟨hk.2, hk.1.2⟩))).1 k_ h_.symm) (fun h_ => ((Kd.R_mono (ok' := fun k_ => ((fun k_ => k_ ≠ gb260)) k_ ∧ some k_ ≠ (u259001 : Value).ownBlock) (Kd.R_types (Kd.R_apart' (HO273.out) (Kd.S_typed HO_259001.out) (by decide)) BK260.out (by decide)) (fun k_ hk => ⟨hk.2, hk.1.2⟩))).1 k_ h_.symm))) ?aF ?aO ?aB ?aS ?aL ?_
            (case aP => exact k67_mkM _ _ _ (⟨t261, t262, t263, t264, t265, t268, t271⟩ : S67) (Kd.R_mono (Kd.R_tight rfl (Kd.R_mono (ok' := fun k_ => ((fun k_ => k_ ≠ gb260)) k_ ∧ some k_ ≠ (u259001 : Value).ownBlock) (Kd.R_types (Kd.R_apart' (HO267.out) (Kd.S_typed HO_259001.out) (by decide)) BK260.out (by decide)) (fun k_ hk => ⟨hk.2, hk.1.2⟩))) (fun _ h_ => Or.inl h_)) (Kd.R_mono (Kd.R_tight rfl (Kd.R_mono (ok' := fun k_ => ((fun k_ => k_ ≠ gb260)) k_ ∧ some k_ ≠ (u259001 : Value).ownBlock) (Kd.R_types (Kd.R_apart' (HO270.out) (Kd.S_typed HO_259001.out) (by decide)) BK260.out (by decide)) (fun k_ hk => ⟨hk.2, hk.1.2⟩))) (fun _ h_ => Or.inr (Or.inl h_))) (Kd.R_mono (Kd.R_tight rfl (Kd.R_mono (ok' := fun k_ => ((fun k_ => k_ ≠ gb260)) k_ ∧ some k_ ≠ (u259001 : Value).ownBlock) (Kd.R_types (Kd.R_apart' (HO273.out) (Kd.S_typed HO_259001.out) (by decide)) BK260.out (by decide)) (fun k_ hk => ⟨hk.2, hk.1.2⟩))) (fun _ h_ => Or.inr (Or.inr (h_)))))
            (case aB => exact bl_)
            (case aF => exact (fun k_ hk => Kd.freshB (g := gb260) (o := .cells #[.string ((rd_T67 l0_1 x32_2).f0), .int .i64 ((rd_T67 l0_1 x32_2).f1), .int .i64 ((rd_T67 l0_1 x32_2).f2), .string ((rd_T67 l0_1 x32_2).f3), .slice A259_4 ((rd_T67 l0_1 x32_2).f4).length c259_4, .slice A259_5 ((rd_T67 l0_1 x32_2).f5).length c259_5, .slice A259_6 ((rd_T67 l0_1 x32_2).f6).length c259_6] 67 (0, 0)) (bk_ BK260.out) k_ hk))
            (case aO => exact (by (with_reducible repeat (first | apply Kd.S_alloc | apply Kd.S_drewN | apply Kd.S_drew)); exact Kd.S_mono HO_259001.out (fun k_ hk => ⟨hk.1.1.1, fun e_ => e_.elim (fun h_ => hk.1.1.2 h_) (fun h_ => h_.elim (fun h_ => hk.1.2 h_) (fun h_ => hk.2 h_))⟩)))
            (case aS => exact (below_size bl_))
            (case aL => have := LMc36.out; omega)
            intro v275 w45 ho hb hg hat
            rw [← Ny274.out] at ho
            have n0_ := Aside0.mk (blk_grown (g := gb248) (o := .cells #[.int .i64 a0_0, .slice (some ad259) l0_1.length c0_1] 26 (0, 0)) (bk_ BK248.out) hg (Kd.S_ne HO_259001.out BK248.out (by decide)))
            have n1_ := Aside0.mk (blk_grown (g := gb249) (o := .cells #[.int .i64 0, .slice none 0 0] 26 (0, 0)) (bk_ BK249.out) hg (Kd.S_ne HO_259001.out BK249.out (by decide)))
            have n2_ := Aside0.mk (blk_grown (g := gb258) (o := .cells #[.int .i64 (wrap64 (a0_0 + a1)), u259001] 26 (0, 0)) (bk_ BK258.out) hg (Kd.S_ne HO_259001.out BK258.out (by decide)))
            have n3_ := Aside0.mk (blk_grown (g := gb260) (o := .cells #[.string ((rd_T67 l0_1 x32_2).f0), .int .i64 ((rd_T67 l0_1 x32_2).f1), .int .i64 ((rd_T67 l0_1 x32_2).f2), .string ((rd_T67 l0_1 x32_2).f3), .slice A259_4 ((rd_T67 l0_1 x32_2).f4).length c259_4, .slice A259_5 ((rd_T67 l0_1 x32_2).f5).length c259_5, .slice A259_6 ((rd_T67 l0_1 x32_2).f6).length c259_6] 67 (0, 0)) (bk_ BK260.out) hg (Kd.S_away HO_259001.out (fun _ hk => hk.1.1.1)))
            have n4_ := Aside0.mk (hb)
            have n5_ := Aside0.mk (ho)
            clear BK248
            clear BK249
            clear BK258
            clear BK260
            clear HB
            clear HO_259001
            clear HO267
            clear HO270
            clear HO273
            have BK248 := n0_
            have BK249 := n1_
            have BK258 := n2_
            have BK260 := n3_
            have HB := n4_
            have HO276 := n5_
            clear n0_ n1_ n2_ n3_ n4_ n5_
            clear ho hb hg hat
            obtain ⟨Ao49, co49, eo49⟩ := Kd.S_slice HO276.out
            (first | subst eo49 | (injection eo49 with f1_ f2_ f3_; have f4_ := f1_.symm; have f5_ := f3_.symm; clear f1_ f2_ f3_; subst f4_; subst f5_))
            refine hK.out _ _ ⟨(blk_cell BK258.out 0).trans rfl, (blk_cell BK258.out 1).trans rfl, (blk_cell BK260.out 0).trans rfl, (blk_cell BK260.out 1).trans rfl, (blk_cell BK260.out 2).trans rfl, (blk_cell BK260.out 3).trans rfl, (blk_cell BK260.out 4).trans rfl, (blk_cell BK260.out 5).trans rfl, (blk_cell BK260.out 6).trans rfl⟩ (fun hHeld => ?_)
            clear hK K
            refine norm_ (a' := ?_) ?_ ?_
            rotate_left
            ·show Act.put _ (some 51) _ = _
             simp only [Act.put, List.setIfInBounds_toArray, List.set_cons_zero, List.set_cons_succ, i64_w, i32_w]
             rfl
            refine pure_ (i := 6) (N := some 52) (v := ?_) (a' := ?_) #[true, true, true, true, true, true, true, false] rfl rfl (any_of HT_.out (by kernel_rfl)) (fun _ _ _ h => h) (Or.inl ⟨by rfl, ?_⟩) ?_ ?_
            rotate_left
            ·intro w'
             go_simp
             with_reducible rfl
            rotate_left
            ·simp only [Act.put, List.setIfInBounds_toArray, List.set_cons_zero, List.set_cons_succ, i64_w, i32_w]
             rfl
            refine last_ (i := 7) (N := none) #[true, true, true, true, true, true, true, true] rfl rfl (one_of HT_.out (by kernel_rfl)) (by decide) (fun K hK => ?_)
            have hs50 : w45.cell? ⟨gb258, 1, none⟩ = some (u259001) := (blk_cell BK258.out 1).trans rfl
            have hfs50 := blk_frozen BK258.out 1
            have hns50_0 := NB248_258.out
            have hns50_1 := NB249_258.out
            have hns50_3 := NB260_258.out
            have hms50_0 := NB258_248.out
            have hms50_1 := NB258_249.out
            have hms50_3 := NB258_260.out
            refine skip_ (w1 := ?_) (by rfl) rfl ?_ ?_
            rotate_left
            ·go_simp
             rfl
            refine hK.out _ _ ?_
            clear hK K
            refine done_ (done_of HT_.out (by kernel_rfl)) ?_
            try go_wp2
            go_roundg k2
            case measure => have := HJ4.out; have := HK2.out; omega
            case rel => exact ⟨(wrap64 (x32_2 + 1)), (y274), (.slice Ao49 y274.length co49), rs_, H', ⟨by have := HJ4.out; have := HK2.out; omega⟩, ⟨by (with_reducible repeat (first | apply Kd.S_alloc | apply Kd.S_drewN | apply Kd.S_drew)); exact Kd.S_mono (Kd.S_far (p := ⟨gb258, 1, none⟩) (Kd.S_types HO276.out BK258.out (by decide)) (fun _ hk => hk.2) (.slice Ao49 y274.length co49)) (fun _ hk => trivial)⟩, ⟨bf_ BK248.out⟩, ⟨bf_ BK249.out⟩, ⟨by (with_reducible repeat (first | refine blk_drewN ?_ _ | refine blk_drew ?_ | refine blk_alloc ?_ _)); refine blk_put (cs := #[.int .i64 (wrap64 (a0_0 + a1)), u259001]) ?_ 1 _ rfl; (with_reducible repeat (first | refine blk_drewN ?_ _ | refine blk_drew ?_ | refine blk_alloc ?_ _)); exact BK258.out⟩, ⟨bl_⟩⟩
           ·rw [if_neg c36] at H
            exact absurd H (by simp)
          ·rw [if_neg c34] at H
           have c34b0 : (((rd_T67 l0_1 x32_2).f1) == 0) = false := beq_eq_false_iff_ne.mpr c34
           have c34b1 : (((rd_T67 l0_1 x32_2).f1) != 0) = true := bne_iff_ne.mpr c34
           by_cases c51 : ((rd_T67 l0_1 x32_2).f1) > (wrap64 (a0_0 + a1))
           ·rw [if_pos c51] at H
            have c51b0 : decide ((wrap64 (a0_0 + a1)) < ((rd_T67 l0_1 x32_2).f1)) = true := decide_eq_true c51
            clear c51
            replace H := Option.bind_eq_some_iff.mp H
            obtain ⟨⟨t277, t278, t279, t280, t281, t284, t287⟩, A520, H⟩ := H
            replace H : (if x259001_2.length < 1172812402961 then (impl_BaseTick.l0 k2 l0_1 (l0_1.length : Int) (wrap64 (x32_2 + 1)) (wrap64 (a0_0 + a1)) (x259001_2 ++ [(⟨t277, t278, t279, t280, t281, t284, t287⟩ : S67)])) else (none)) = some (r1, r2) := H
            have A52 := Aside0.mk A520
            clear A520
            by_cases c53 : x259001_2.length < 1172812402961
            ·rw [if_pos c53] at H
             have LMc53 := Aside0.mk c53
             clear c53
             obtain ⟨y290, hy290⟩ : ∃ y_ : List (S67), y_ = (x259001_2 ++ [(⟨t277, t278, t279, t280, t281, t284, t287⟩ : S67)]) := ⟨_, rfl⟩
             replace H : (impl_BaseTick.l0 k2 l0_1 (l0_1.length : Int) (wrap64 (x32_2 + 1)) (wrap64 (a0_0 + a1)) y290) = some (r1, r2) := by first | (rw [hy290]; with_reducible exact H) | (have H2_ := (Option.bind_some _ _).symm.trans H; rw [hy290]; with_reducible exact H2_) | (have H2_ := (Option.bind_some _ _).symm.trans H; with_reducible exact H2_) | with_reducible exact H | (rw [hy290]; exact H) | exact H
             have Ny290 := Aside0.mk hy290
             clear hy290
             have H' := Aside0.mk H
             clear H
             have p259 : 0 ≤ (x32_2 : Int) := od_
             have q259 : x32_2 < (l0_1.length : Int) := od_
             obtain ⟨ad259, A259_4, c259_4, A259_5, c259_5, A259_6, c259_6, e259, hx259_0, hx259_1, hx259_2, hx259_3, hx259_4, hx259_5, hx259_6, hl259_4, hi259_4, hl259_5, hi259_5, hl259_6, hi259_6⟩ := at_T67 HR0_1.out x32_2 p259 q259
             cases e259
             replace hx259_0 := (HB.out.cell (World.block_lt_of_cell? w _ hx259_0)).trans hx259_0
             replace hx259_1 := (HB.out.cell (World.block_lt_of_cell? w _ hx259_1)).trans hx259_1
             replace hx259_2 := (HB.out.cell (World.block_lt_of_cell? w _ hx259_2)).trans hx259_2
             replace hx259_3 := (HB.out.cell (World.block_lt_of_cell? w _ hx259_3)).trans hx259_3
             replace hx259_4 := (HB.out.cell (World.block_lt_of_cell? w _ hx259_4)).trans hx259_4
             replace hx259_5 := (HB.out.cell (World.block_lt_of_cell? w _ hx259_5)).trans hx259_5
             replace hx259_6 := (HB.out.cell (World.block_lt_of_cell? w _ hx259_6)).trans hx259_6
             have HR259_4 := Aside0.mk hi259_4
             have HC259_4 := Aside0.mk hl259_4
             clear hi259_4 hl259_4
             have HR259_5 := Aside0.mk hi259_5
             have HC259_5 := Aside0.mk hl259_5
             clear hi259_5 hl259_5
             have HR259_6 := Aside0.mk hi259_6
             have HC259_6 := Aside0.mk hl259_6
             clear hi259_6 hl259_6
             replace p259 := eq_true p259
             replace q259 := eq_true q259
             try go_wp2_with (first | ((with_reducible refine gate_dst (N := 7) rfl ?_); refine box_event ?hg (N := 7) ?hd (cs := #[.string (⟨#[]⟩ : ByteArray), .int .i64 0, .int .i64 0, .string (⟨#[]⟩ : ByteArray), .slice none 0 0, .slice none 0 0, .slice none 0 0]) (t := 67) ?hr ?_; (case hd => rfl); (case hg => rfl); (case hr => first | (go_simp; done) | (go_simp; rfl)); intro gb260 hg w54 hbox hb; have n0_ := Aside0.mk (Kd.S_below (Kd.S_elderB (by (with_reducible repeat (first | apply Kd.S_alloc | apply Kd.S_drewN | apply Kd.S_drew)); exact HO_259001.out) gb260 (Nat.le_of_eq hg.symm)) hb); have n1_ := Aside0.mk (blk_below (g := gb248) (o := .cells #[.int .i64 a0_0, .slice (some ad259) l0_1.length c0_1] 26 (0, 0)) (bk_ BK248.out) hb); have n2_ := Aside0.mk (blk_below (g := gb249) (o := .cells #[.int .i64 0, .slice none 0 0] 26 (0, 0)) (bk_ BK249.out) hb); have n3_ := Aside0.mk (blk_below (g := gb258) (o := .cells #[.int .i64 (wrap64 (a0_0 + a1)), u259001] 26 (0, 0)) (bk_ BK258.out) hb); have n4_ := Aside0.mk (below_step bl_ hb); have n5_ := Aside0.mk (hbox); have n6_ := Aside0.mk ((by rw [hg]; exact (below_size bl_) : w.heap.size ≤ gb260)); have n7_ := Aside0.mk ((by rw [hg]; exact (below_size bl_) : w.heap.size ≤ gb260)); have n8_ := Aside0.mk ((by rw [hg]; exact Nat.ne_of_lt (blk_lt (g := gb248) (o := .cells #[.int .i64 a0_0, .slice (some ad259) l0_1.length c0_1] 26 (0, 0)) (bk_ BK248.out)) : gb248 ≠ gb260)); have n9_ := Aside0.mk ((by rw [hg]; exact Nat.ne_of_gt (blk_lt (g := gb248) (o := .cells #[.int .i64 a0_0, .slice (some ad259) l0_1.length c0_1] 26 (0, 0)) (bk_ BK248.out)) : gb260 ≠ gb248)); have n10_ := Aside0.mk ((by rw [hg]; exact Nat.ne_of_lt (blk_lt (g := gb249) (o := .cells #[.int .i64 0, .slice none 0 0] 26 (0, 0)) (bk_ BK249.out)) : gb249 ≠ gb260)); have n11_ := Aside0.mk ((by rw [hg]; exact Nat.ne_of_gt (blk_lt (g := gb249) (o := .cells #[.int .i64 0, .slice none 0 0] 26 (0, 0)) (bk_ BK249.out)) : gb260 ≠ gb249)); have n12_ := Aside0.mk ((by rw [hg]; exact Nat.ne_of_lt (blk_lt (g := gb258) (o := .cells #[.int .i64 (wrap64 (a0_0 + a1)), u259001] 26 (0, 0)) (bk_ BK258.out)) : gb258 ≠ gb260)); have n13_ := Aside0.mk ((by rw [hg]; exact Nat.ne_of_gt (blk_lt (g := gb258) (o := .cells #[.int .i64 (wrap64 (a0_0 + a1)), u259001] 26 (0, 0)) (bk_ BK258.out)) : gb260 ≠ gb258)); clear HO_259001; clear BK248; clear BK249; clear BK258; clear HB; have HO_259001 := n0_; have BK248 := n1_; have BK249 := n2_; have BK258 := n3_; have HB := n4_; have BK260 := n5_; have GW260 := n6_; have GE260 := n7_; have NB248_260 := n8_; have NB260_248 := n9_; have NB249_260 := n10_; have NB260_249 := n11_; have NB258_260 := n12_; have NB260_258 := n13_; clear n0_ n1_ n2_ n3_ n4_ n5_ n6_ n7_ n8_ n9_ n10_ n11_ n12_ n13_; clear hb hbox hg; have hnb55 := NB260_248.out; have hnc55 := NB248_260.out; have hnb56 := NB260_249.out; have hnc56 := NB249_260.out; have hnb57 := NB260_258.out; have hnc57 := NB258_260.out; have hcz58_0 : w54.cell? ⟨gb260, 0, none⟩ = some (.string (⟨#[]⟩ : ByteArray)) := (blk_cell BK260.out 0).trans rfl; have hcz58_1 : w54.cell? ⟨gb260, 1, none⟩ = some (.int .i64 0) := (blk_cell BK260.out 1).trans rfl; have hcz58_2 : w54.cell? ⟨gb260, 2, none⟩ = some (.int .i64 0) := (blk_cell BK260.out 2).trans rfl; have hcz58_3 : w54.cell? ⟨gb260, 3, none⟩ = some (.string (⟨#[]⟩ : ByteArray)) := (blk_cell BK260.out 3).trans rfl; have hcz58_4 : w54.cell? ⟨gb260, 4, none⟩ = some (.slice none 0 0) := (blk_cell BK260.out 4).trans rfl; have hcz58_5 : w54.cell? ⟨gb260, 5, none⟩ = some (.slice none 0 0) := (blk_cell BK260.out 5).trans rfl; have hcz58_6 : w54.cell? ⟨gb260, 6, none⟩ = some (.slice none 0 0) := (blk_cell BK260.out 6).trans rfl; have hfz58_0 := blk_frozen BK260.out 0; have hfz58_1 := blk_frozen BK260.out 1; have hfz58_2 := blk_frozen BK260.out 2; have hfz58_3 := blk_frozen BK260.out 3; have hfz58_4 := blk_frozen BK260.out 4; have hfz58_5 := blk_frozen BK260.out 5; have hfz58_6 := blk_frozen BK260.out 6; have hnb59 := NB258_248.out; have hnc59 := NB248_258.out; have hnb60 := NB258_249.out; have hnc60 := NB249_258.out; have hcz61_0 : w54.cell? ⟨gb258, 0, none⟩ = some (.int .i64 (wrap64 (a0_0 + a1))) := (blk_cell BK258.out 0).trans rfl; have hcz61_1 : w54.cell? ⟨gb258, 1, none⟩ = some (u259001) := (blk_cell BK258.out 1).trans rfl; have hfz61_0 := blk_frozen BK258.out 0; have hfz61_1 := blk_frozen BK258.out 1))
             have n0_ : Aside0 (Kd.S k67 67 (((((((w54.setCell ⟨gb260, 0, none⟩ (.string ((rd_T67 l0_1 x32_2).f0))).setCell ⟨gb260, 1, none⟩ (.int .i64 ((rd_T67 l0_1 x32_2).f1))).setCell ⟨gb260, 2, none⟩ (.int .i64 ((rd_T67 l0_1 x32_2).f2))).setCell ⟨gb260, 3, none⟩ (.string ((rd_T67 l0_1 x32_2).f3))).setCell ⟨gb260, 4, none⟩ (.slice A259_4 ((rd_T67 l0_1 x32_2).f4).length c259_4)).setCell ⟨gb260, 5, none⟩ (.slice A259_5 ((rd_T67 l0_1 x32_2).f5).length c259_5)).setCell ⟨gb260, 6, none⟩ (.slice A259_6 ((rd_T67 l0_1 x32_2).f6).length c259_6)) w.heap.size (fun k_ => k_ ≠ gb260) u259001 x259001_2) := ⟨by (with_reducible repeat (first | apply Kd.S_alloc | apply Kd.S_drewN | apply Kd.S_drew)); exact Kd.S_mono (Kd.S_far (p := ⟨gb260, 6, none⟩) (Kd.S_far (p := ⟨gb260, 5, none⟩) (Kd.S_far (p := ⟨gb260, 4, none⟩) (Kd.S_far (p := ⟨gb260, 3, none⟩) (Kd.S_far (p := ⟨gb260, 2, none⟩) (Kd.S_far (p := ⟨gb260, 1, none⟩) (Kd.S_far (p := ⟨gb260, 0, none⟩) (Kd.S_mono HO_259001.out (fun k_ hk => (⟨hk, hk.2⟩ : _ ∧ k_ ≠ gb260))) (fun _ hk => hk.2) (.string ((rd_T67 l0_1 x32_2).f0))) (fun _ hk => hk.2) (.int .i64 ((rd_T67 l0_1 x32_2).f1))) (fun _ hk => hk.2) (.int .i64 ((rd_T67 l0_1 x32_2).f2))) (fun _ hk => hk.2) (.string ((rd_T67 l0_1 x32_2).f3))) (fun _ hk => hk.2) (.slice A259_4 ((rd_T67 l0_1 x32_2).f4).length c259_4)) (fun _ hk => hk.2) (.slice A259_5 ((rd_T67 l0_1 x32_2).f5).length c259_5)) (fun _ hk => hk.2) (.slice A259_6 ((rd_T67 l0_1 x32_2).f6).length c259_6)) (fun _ hk => hk.1.2)⟩
             have n1_ : Aside0 ((((((((w54.setCell ⟨gb260, 0, none⟩ (.string ((rd_T67 l0_1 x32_2).f0))).setCell ⟨gb260, 1, none⟩ (.int .i64 ((rd_T67 l0_1 x32_2).f1))).setCell ⟨gb260, 2, none⟩ (.int .i64 ((rd_T67 l0_1 x32_2).f2))).setCell ⟨gb260, 3, none⟩ (.string ((rd_T67 l0_1 x32_2).f3))).setCell ⟨gb260, 4, none⟩ (.slice A259_4 ((rd_T67 l0_1 x32_2).f4).length c259_4)).setCell ⟨gb260, 5, none⟩ (.slice A259_5 ((rd_T67 l0_1 x32_2).f5).length c259_5)).setCell ⟨gb260, 6, none⟩ (.slice A259_6 ((rd_T67 l0_1 x32_2).f6).length c259_6)).heap[gb248]? = some (.cells #[.int .i64 a0_0, .slice (some ad259) l0_1.length c0_1] 26 (0, 0))) := ⟨bf_ BK248.out⟩
             have n2_ : Aside0 ((((((((w54.setCell ⟨gb260, 0, none⟩ (.string ((rd_T67 l0_1 x32_2).f0))).setCell ⟨gb260, 1, none⟩ (.int .i64 ((rd_T67 l0_1 x32_2).f1))).setCell ⟨gb260, 2, none⟩ (.int .i64 ((rd_T67 l0_1 x32_2).f2))).setCell ⟨gb260, 3, none⟩ (.string ((rd_T67 l0_1 x32_2).f3))).setCell ⟨gb260, 4, none⟩ (.slice A259_4 ((rd_T67 l0_1 x32_2).f4).length c259_4)).setCell ⟨gb260, 5, none⟩ (.slice A259_5 ((rd_T67 l0_1 x32_2).f5).length c259_5)).setCell ⟨gb260, 6, none⟩ (.slice A259_6 ((rd_T67 l0_1 x32_2).f6).length c259_6)).heap[gb249]? = some (.cells #[.int .i64 0, .slice none 0 0] 26 (0, 0))) := ⟨bf_ BK249.out⟩
             have n3_ : Aside0 ((((((((w54.setCell ⟨gb260, 0, none⟩ (.string ((rd_T67 l0_1 x32_2).f0))).setCell ⟨gb260, 1, none⟩ (.int .i64 ((rd_T67 l0_1 x32_2).f1))).setCell ⟨gb260, 2, none⟩ (.int .i64 ((rd_T67 l0_1 x32_2).f2))).setCell ⟨gb260, 3, none⟩ (.string ((rd_T67 l0_1 x32_2).f3))).setCell ⟨gb260, 4, none⟩ (.slice A259_4 ((rd_T67 l0_1 x32_2).f4).length c259_4)).setCell ⟨gb260, 5, none⟩ (.slice A259_5 ((rd_T67 l0_1 x32_2).f5).length c259_5)).setCell ⟨gb260, 6, none⟩ (.slice A259_6 ((rd_T67 l0_1 x32_2).f6).length c259_6)).heap[gb258]? = some (.cells #[.int .i64 (wrap64 (a0_0 + a1)), u259001] 26 (0, 0))) := ⟨bf_ BK258.out⟩
             have n4_ : Aside0 ((((((((w54.setCell ⟨gb260, 0, none⟩ (.string ((rd_T67 l0_1 x32_2).f0))).setCell ⟨gb260, 1, none⟩ (.int .i64 ((rd_T67 l0_1 x32_2).f1))).setCell ⟨gb260, 2, none⟩ (.int .i64 ((rd_T67 l0_1 x32_2).f2))).setCell ⟨gb260, 3, none⟩ (.string ((rd_T67 l0_1 x32_2).f3))).setCell ⟨gb260, 4, none⟩ (.slice A259_4 ((rd_T67 l0_1 x32_2).f4).length c259_4)).setCell ⟨gb260, 5, none⟩ (.slice A259_5 ((rd_T67 l0_1 x32_2).f5).length c259_5)).setCell ⟨gb260, 6, none⟩ (.slice A259_6 ((rd_T67 l0_1 x32_2).f6).length c259_6)).heap[gb260]? = some (.cells #[.string ((rd_T67 l0_1 x32_2).f0), .int .i64 ((rd_T67 l0_1 x32_2).f1), .int .i64 ((rd_T67 l0_1 x32_2).f2), .string ((rd_T67 l0_1 x32_2).f3), .slice A259_4 ((rd_T67 l0_1 x32_2).f4).length c259_4, .slice A259_5 ((rd_T67 l0_1 x32_2).f5).length c259_5, .slice A259_6 ((rd_T67 l0_1 x32_2).f6).length c259_6] 67 (0, 0))) := ⟨by (with_reducible repeat (first | refine blk_drewN ?_ _ | refine blk_drew ?_ | refine blk_alloc ?_ _)); refine blk_put (cs := #[.string ((rd_T67 l0_1 x32_2).f0), .int .i64 ((rd_T67 l0_1 x32_2).f1), .int .i64 ((rd_T67 l0_1 x32_2).f2), .string ((rd_T67 l0_1 x32_2).f3), .slice A259_4 ((rd_T67 l0_1 x32_2).f4).length c259_4, .slice A259_5 ((rd_T67 l0_1 x32_2).f5).length c259_5, .slice none 0 0]) ?_ 6 _ rfl; (with_reducible repeat (first | refine blk_drewN ?_ _ | refine blk_drew ?_ | refine blk_alloc ?_ _)); refine blk_put (cs := #[.string ((rd_T67 l0_1 x32_2).f0), .int .i64 ((rd_T67 l0_1 x32_2).f1), .int .i64 ((rd_T67 l0_1 x32_2).f2), .string ((rd_T67 l0_1 x32_2).f3), .slice A259_4 ((rd_T67 l0_1 x32_2).f4).length c259_4, .slice none 0 0, .slice none 0 0]) ?_ 5 _ rfl; (with_reducible repeat (first | refine blk_drewN ?_ _ | refine blk_drew ?_ | refine blk_alloc ?_ _)); refine blk_put (cs := #[.string ((rd_T67 l0_1 x32_2).f0), .int .i64 ((rd_T67 l0_1 x32_2).f1), .int .i64 ((rd_T67 l0_1 x32_2).f2), .string ((rd_T67 l0_1 x32_2).f3), .slice none 0 0, .slice none 0 0, .slice none 0 0]) ?_ 4 _ rfl; (with_reducible repeat (first | refine blk_drewN ?_ _ | refine blk_drew ?_ | refine blk_alloc ?_ _)); refine blk_put (cs := #[.string ((rd_T67 l0_1 x32_2).f0), .int .i64 ((rd_T67 l0_1 x32_2).f1), .int .i64 ((rd_T67 l0_1 x32_2).f2), .string (⟨#[]⟩ : ByteArray), .slice none 0 0, .slice none 0 0, .slice none 0 0]) ?_ 3 _ rfl; (with_reducible repeat (first | refine blk_drewN ?_ _ | refine blk_drew ?_ | refine blk_alloc ?_ _)); refine blk_put (cs := #[.string ((rd_T67 l0_1 x32_2).f0), .int .i64 ((rd_T67 l0_1 x32_2).f1), .int .i64 0, .string (⟨#[]⟩ : ByteArray), .slice none 0 0, .slice none 0 0, .slice none 0 0]) ?_ 2 _ rfl; (with_reducible repeat (first | refine blk_drewN ?_ _ | refine blk_drew ?_ | refine blk_alloc ?_ _)); refine blk_put (cs := #[.string ((rd_T67 l0_1 x32_2).f0), .int .i64 0, .int .i64 0, .string (⟨#[]⟩ : ByteArray), .slice none 0 0, .slice none 0 0, .slice none 0 0]) ?_ 1 _ rfl; (with_reducible repeat (first | refine blk_drewN ?_ _ | refine blk_drew ?_ | refine blk_alloc ?_ _)); refine blk_put (cs := #[.string (⟨#[]⟩ : ByteArray), .int .i64 0, .int .i64 0, .string (⟨#[]⟩ : ByteArray), .slice none 0 0, .slice none 0 0, .slice none 0 0]) ?_ 0 _ rfl; (with_reducible repeat (first | refine blk_drewN ?_ _ | refine blk_drew ?_ | refine blk_alloc ?_ _)); exact BK260.out⟩
             have n5_ : Aside0 (Below w.heap.size w (((((((w54.setCell ⟨gb260, 0, none⟩ (.string ((rd_T67 l0_1 x32_2).f0))).setCell ⟨gb260, 1, none⟩ (.int .i64 ((rd_T67 l0_1 x32_2).f1))).setCell ⟨gb260, 2, none⟩ (.int .i64 ((rd_T67 l0_1 x32_2).f2))).setCell ⟨gb260, 3, none⟩ (.string ((rd_T67 l0_1 x32_2).f3))).setCell ⟨gb260, 4, none⟩ (.slice A259_4 ((rd_T67 l0_1 x32_2).f4).length c259_4)).setCell ⟨gb260, 5, none⟩ (.slice A259_5 ((rd_T67 l0_1 x32_2).f5).length c259_5)).setCell ⟨gb260, 6, none⟩ (.slice A259_6 ((rd_T67 l0_1 x32_2).f6).length c259_6))) := ⟨bl_⟩
             (try clear HO_259001)
             (try clear BK248)
             (try clear BK249)
             (try clear BK258)
             (try clear BK260)
             (try clear HB)
             generalize (((((((w54.setCell ⟨gb260, 0, none⟩ (.string ((rd_T67 l0_1 x32_2).f0))).setCell ⟨gb260, 1, none⟩ (.int .i64 ((rd_T67 l0_1 x32_2).f1))).setCell ⟨gb260, 2, none⟩ (.int .i64 ((rd_T67 l0_1 x32_2).f2))).setCell ⟨gb260, 3, none⟩ (.string ((rd_T67 l0_1 x32_2).f3))).setCell ⟨gb260, 4, none⟩ (.slice A259_4 ((rd_T67 l0_1 x32_2).f4).length c259_4)).setCell ⟨gb260, 5, none⟩ (.slice A259_5 ((rd_T67 l0_1 x32_2).f5).length c259_5)).setCell ⟨gb260, 6, none⟩ (.slice A259_6 ((rd_T67 l0_1 x32_2).f6).length c259_6)) = w62 at n0_ n1_ n2_ n3_ n4_ n5_ ⊢
             have HO_259001 := n0_
             have BK248 := n1_
             have BK249 := n2_
             have BK258 := n3_
             have BK260 := n4_
             have HB := n5_
             clear n0_ n1_ n2_ n3_ n4_ n5_
             have n0_ := Aside0.mk (Kd.S_drew HO_259001.out)
             have n1_ := Aside0.mk (blk_drew BK248.out)
             have n2_ := Aside0.mk (blk_drew BK249.out)
             have n3_ := Aside0.mk (blk_drew BK258.out)
             have n4_ := Aside0.mk (blk_drew BK260.out)
             have n5_ := Aside0.mk (below_drew1 HB.out)
             clear HO_259001
             clear BK248
             clear BK249
             clear BK258
             clear BK260
             clear HB
             have HO_259001 := n0_
             have BK248 := n1_
             have BK249 := n2_
             have BK258 := n3_
             have BK260 := n4_
             have HB := n5_
             clear n0_ n1_ n2_ n3_ n4_ n5_
             refine start_ (n := 8) (S := fun w' => w'.cell? ⟨gb258, 0, none⟩ = some (.int .i64 (wrap64 (a0_0 + a1))) ∧ w'.cell? ⟨gb258, 1, none⟩ = some (u259001) ∧ w'.cell? ⟨gb260, 0, none⟩ = some (.string ((rd_T67 l0_1 x32_2).f0)) ∧ w'.cell? ⟨gb260, 1, none⟩ = some (.int .i64 ((rd_T67 l0_1 x32_2).f1)) ∧ w'.cell? ⟨gb260, 2, none⟩ = some (.int .i64 ((rd_T67 l0_1 x32_2).f2)) ∧ w'.cell? ⟨gb260, 3, none⟩ = some (.string ((rd_T67 l0_1 x32_2).f3)) ∧ w'.cell? ⟨gb260, 4, none⟩ = some (.slice A259_4 ((rd_T67 l0_1 x32_2).f4).length c259_4) ∧ w'.cell? ⟨gb260, 5, none⟩ = some (.slice A259_5 ((rd_T67 l0_1 x32_2).f5).length c259_5) ∧ w'.cell? ⟨gb260, 6, none⟩ = some (.slice A259_6 ((rd_T67 l0_1 x32_2).f6).length c259_6)) (ds := [7]) #[false, false, false, false, false, false, false, false] (by kernel_rfl) rfl rfl ⟨(blk_cell BK258.out 0).trans rfl, (blk_cell BK258.out 1).trans rfl, (blk_cell BK260.out 0).trans rfl, (blk_cell BK260.out 1).trans rfl, (blk_cell BK260.out 2).trans rfl, (blk_cell BK260.out 3).trans rfl, (blk_cell BK260.out 4).trans rfl, (blk_cell BK260.out 5).trans rfl, (blk_cell BK260.out 6).trans rfl⟩ (fun hHeld => ?_); refine with_tabW impl_BaseTick.tab10 impl_BaseTick.bits10 (fun HT_ HW_ => ?_)
             generalize w62.drew = w63 at HO_259001 BK248 BK249 BK258 BK260 HB hHeld ⊢
             refine pure_ (i := 0) (N := some 46) (v := ?_) (a' := ?_) #[true, false, false, false, false, false, false, false] rfl rfl (any_of HT_.out (by kernel_rfl)) (fun _ _ _ h => h) (Or.inl ⟨by rfl, ?_⟩) ?_ ?_
             rotate_left
             ·intro w'
              go_simp
              with_reducible rfl
             rotate_left
             ·simp only [Act.put, List.setIfInBounds_toArray, List.set_cons_zero, List.set_cons_succ, i64_w, i32_w]
              rfl
             refine take_ (i := 1) (N := some 47) (v := ?_) (a' := ?_) #[true, true, false, false, false, false, false, false] rfl rfl (take_ofW HT_.out HW_.out (by kernel_rfl)) (fun _ _ _ h => h) (Or.inl ⟨by rfl, ?_⟩) hHeld ?_ ?_
             rotate_left
             ·rintro w' ⟨s0, s1, s2, s3, s4, s5, s6, s7, s8⟩
              go_simp
              with_reducible rfl
             rotate_left
             ·simp only [Act.put, List.setIfInBounds_toArray, List.set_cons_zero, List.set_cons_succ, i64_w, i32_w]
              rfl
             refine take_ (i := 2) (N := some 48) (v := ?_) (a' := ?_) #[true, true, true, false, false, false, false, false] rfl rfl (take_ofW HT_.out HW_.out (by kernel_rfl)) (fun _ _ _ h => h) (Or.inl ⟨by rfl, ?_⟩) hHeld ?_ ?_
             rotate_left
             ·rintro w' ⟨s0, s1, s2, s3, s4, s5, s6, s7, s8⟩
              go_simp
              with_reducible rfl
             rotate_left
             ·simp only [Act.put, List.setIfInBounds_toArray, List.set_cons_zero, List.set_cons_succ, i64_w, i32_w]
              rfl
             refine one_ (i := 3) (N := some 49) #[true, true, true, true, false, false, false, false] rfl rfl (one_of HT_.out (by kernel_rfl)) (by decide) (fun K hK => ?_)
             refine goes_ Tryz.func45 (by kernel_rfl) rfl #[.agg #[.string ((rd_T67 l0_1 x32_2).f0), .int .i64 ((rd_T67 l0_1 x32_2).f1), .int .i64 ((rd_T67 l0_1 x32_2).f2), .string ((rd_T67 l0_1 x32_2).f3), .slice A259_4 ((rd_T67 l0_1 x32_2).f4).length c259_4, .slice A259_5 ((rd_T67 l0_1 x32_2).f5).length c259_5, .slice A259_6 ((rd_T67 l0_1 x32_2).f6).length c259_6]] (by rfl) rfl rfl ga_ ?_
             with_reducible refine (impl_cloneEntry.calls ((rd_T67 l0_1 x32_2).f0) ((rd_T67 l0_1 x32_2).f1) ((rd_T67 l0_1 x32_2).f2) ((rd_T67 l0_1 x32_2).f3) _ _ ((rd_T67 l0_1 x32_2).f4) _ _ ((rd_T67 l0_1 x32_2).f5) _ _ ((rd_T67 l0_1 x32_2).f6) t277 t278 t279 t280 t281 t284 t287 _ ?side1 ?side2 ?side3 ?side4 ?side5 ?side6 A52.out).mono ?_
             (case side1 => repeat (first | exact (Kd.C_below HR259_4.out HB.out) | (with_reducible refine Kd.C_alloc ?_ _) | (with_reducible refine Kd.C_drewN ?_ _) | (with_reducible refine Kd.C_drew ?_)))
             (case side2 => exact HC259_4.out)
             (case side3 => repeat (first | exact (Kd.C_below HR259_5.out HB.out) | (with_reducible refine Kd.C_alloc ?_ _) | (with_reducible refine Kd.C_drewN ?_ _) | (with_reducible refine Kd.C_drew ?_)))
             (case side4 => exact HC259_5.out)
             (case side5 => repeat (first | exact (Kd.C_below HR259_6.out HB.out) | (with_reducible refine Kd.C_alloc ?_ _) | (with_reducible refine Kd.C_drewN ?_ _) | (with_reducible refine Kd.C_drew ?_)))
             (case side6 => exact HC259_6.out)
             rintro e w64 ⟨v282, v285, v288, rfl, ho0, ho1, ho2, hb⟩
             refine ⟨_, rfl, ?_⟩
             have n0_ := Aside0.mk (Kd.S_mono (Kd.S_told (Kd.S_told (Kd.S_told (Kd.S_old (by (with_reducible repeat (first | apply Kd.S_alloc | apply Kd.S_drewN | apply Kd.S_drew)); exact HO_259001.out) hb) (Kd.R_base ho0)) (Kd.R_base ho1)) (Kd.R_base ho2)) (fun _ h_ => h_.1))
             have n1_ := Aside0.mk (Kd.R_lower ho0 (below_size bl_))
             have n2_ := Aside0.mk (Kd.R_lower ho1 (below_size bl_))
             have n3_ := Aside0.mk (Kd.R_lower ho2 (below_size bl_))
             have n4_ := Aside0.mk (blk_below (g := gb248) (o := .cells #[.int .i64 a0_0, .slice (some ad259) l0_1.length c0_1] 26 (0, 0)) (bk_ BK248.out) hb)
             have n5_ := Aside0.mk (blk_below (g := gb249) (o := .cells #[.int .i64 0, .slice none 0 0] 26 (0, 0)) (bk_ BK249.out) hb)
             have n6_ := Aside0.mk (blk_below (g := gb258) (o := .cells #[.int .i64 (wrap64 (a0_0 + a1)), u259001] 26 (0, 0)) (bk_ BK258.out) hb)
             have n7_ := Aside0.mk (blk_below (g := gb260) (o := .cells #[.string ((rd_T67 l0_1 x32_2).f0), .int .i64 ((rd_T67 l0_1 x32_2).f1), .int .i64 ((rd_T67 l0_1 x32_2).f2), .string ((rd_T67 l0_1 x32_2).f3), .slice A259_4 ((rd_T67 l0_1 x32_2).f4).length c259_4, .slice A259_5 ((rd_T67 l0_1 x32_2).f5).length c259_5, .slice A259_6 ((rd_T67 l0_1 x32_2).f6).length c259_6] 67 (0, 0)) (bk_ BK260.out) hb)
             have n8_ := Aside0.mk (below_step bl_ hb)
             clear HO_259001
             clear BK248
             clear BK249
             clear BK258
             clear BK260
             clear HB
             have HO_259001 := n0_
             have HO283 := n1_
             have HO286 := n2_
             have HO289 := n3_
             have BK248 := n4_
             have BK249 := n5_
             have BK258 := n6_
             have BK260 := n7_
             have HB := n8_
             clear n0_ n1_ n2_ n3_ n4_ n5_ n6_ n7_ n8_
             (try clear hb)
             (try clear hb2)
             (try clear hk)
             (try clear hi)
             (try clear ho0)
             (try clear ho1)
             (try clear ho2)
             obtain ⟨Ao66, co66, eo66⟩ := Kd.R_slice HO283.out
             (first | subst eo66 | (injection eo66 with f1_ f2_ f3_; have f4_ := f1_.symm; have f5_ := f3_.symm; clear f1_ f2_ f3_; subst f4_; subst f5_))
             obtain ⟨Ao67, co67, eo67⟩ := Kd.R_slice HO286.out
             (first | subst eo67 | (injection eo67 with f1_ f2_ f3_; have f4_ := f1_.symm; have f5_ := f3_.symm; clear f1_ f2_ f3_; subst f4_; subst f5_))
             obtain ⟨Ao68, co68, eo68⟩ := Kd.R_slice HO289.out
             (first | subst eo68 | (injection eo68 with f1_ f2_ f3_; have f4_ := f1_.symm; have f5_ := f3_.symm; clear f1_ f2_ f3_; subst f4_; subst f5_))
             refine hK.out _ _ ⟨(blk_cell BK258.out 0).trans rfl, (blk_cell BK258.out 1).trans rfl, (blk_cell BK260.out 0).trans rfl, (blk_cell BK260.out 1).trans rfl, (blk_cell BK260.out 2).trans rfl, (blk_cell BK260.out 3).trans rfl, (blk_cell BK260.out 4).trans rfl, (blk_cell BK260.out 5).trans rfl, (blk_cell BK260.out 6).trans rfl⟩ (fun hHeld => ?_)
             clear hK K
             refine norm_ (a' := ?_) ?_ ?_
             rotate_left
             ·show Act.put _ (some 49) _ = _
              simp only [Act.put, List.setIfInBounds_toArray, List.set_cons_zero, List.set_cons_succ, i64_w, i32_w]
              rfl
             refine one_ (i := 4) (N := some 50) #[true, true, true, true, true, false, false, false] rfl rfl (one_of HT_.out (by kernel_rfl)) (by decide) (fun K hK => ?_)
             refine value_ (w1 := ?_) (v := ?_) (by rfl) rfl ?_ ?_
             rotate_left 2
             ·go_simp
              constructor
              ·rfl
              ·rfl
             refine hK.out _ _ ⟨(blk_cell (blk_alloc BK258.out _) 0).trans rfl, (blk_cell (blk_alloc BK258.out _) 1).trans rfl, (blk_cell (blk_alloc BK260.out _) 0).trans rfl, (blk_cell (blk_alloc BK260.out _) 1).trans rfl, (blk_cell (blk_alloc BK260.out _) 2).trans rfl, (blk_cell (blk_alloc BK260.out _) 3).trans rfl, (blk_cell (blk_alloc BK260.out _) 4).trans rfl, (blk_cell (blk_alloc BK260.out _) 5).trans rfl, (blk_cell (blk_alloc BK260.out _) 6).trans rfl⟩ (fun hHeld => ?_)
             clear hK K
             refine norm_ (a' := ?_) ?_ ?_
             rotate_left
             ·show Act.put _ (some 50) _ = _
              simp only [Act.put, List.setIfInBounds_toArray, List.set_cons_zero, List.set_cons_succ, i64_w, i32_w]
              rfl
             refine one_ (i := 5) (N := some 51) #[true, true, true, true, true, true, false, false] rfl rfl (one_of HT_.out (by kernel_rfl)) (by decide) (fun K hK => ?_)
             refine Kd.S_append_step k67 (w0 := w) w.heap.size (by rfl) (.tmp 47) (.tmp 50) 24 67 (.agg #[(.string ⟨#[]⟩), (.int .i64 0), (.int .i64 0), (.string ⟨#[]⟩), (.slice none 0 0), (.slice none 0 0), (.slice none 0 0)]) 120 rfl Tryz.underlying24 info67 rfl (by decide) (by omega) u259001 x259001_2 (⟨t277, t278, t279, t280, t281, t284, t287⟩ : S67) [.string t277, .int .i64 t278, .int .i64 t279, .string t280, .slice Ao66 t281.length co66, .slice Ao67 t284.length co67, .slice Ao68 t287.length co68] (fun k_ => k_ ≠ gb260) (fun k_ => some k_ = (.slice Ao66 t281.length co66 : Value).ownBlock ∨ some k_ = (.slice Ao67 t284.length co67 : Value).ownBlock ∨ some k_ = (.slice Ao68 t287.length co68 : Value).ownBlock) rfl rfl ?aP (fun k_ hk_ => hk_.elim (fun h_ => ((Kd.R_mono (ok' := fun k_ => ((fun k_ => k_ ≠ gb260)) k_ ∧ some k_ ≠ (u259001 : Value).ownBlock) (Kd.R_types (Kd.R_apart' (HO283.out) (Kd.S_typed HO_259001.out) (by decide)) BK260.out (by decide)) (fun k_ hk => ⟨hk.2, hk.1.2⟩))).1 k_ h_.symm) (fun h_ => h_.elim (fun h_ => ((Kd.R_mono (ok' := fun k_ => ((fun k_ => k_ ≠ gb260)) k_ ∧ some k_ ≠ (u259001 : Value).ownBlock) (Kd.R_types (Kd.R_apart' (HO286.out) (Kd.S_typed HO_259001.out) (by decide)) BK260.out (by decide)) (fun k_ hk => ⟨hk.2, hk.1.2⟩))).1 k_ h_.symm) (fun h_ => ((Kd.R_mono (ok' := fun k_ => ((fun k_ => k_ ≠ gb260)) k_ ∧ some k_ ≠ (u259001 : Value).ownBlock) (Kd.R_types (Kd.R_apart' (HO289.out) (Kd.S_typed HO_259001.out) (by decide)) BK260.out (by decide)) (fun k_ hk => ⟨hk.2, hk.1.2⟩))).1 k_ h_.symm))) ?aF ?aO ?aB ?aS ?aL ?_
             (case aP => exact k67_mkM _ _ _ (⟨t277, t278, t279, t280, t281, t284, t287⟩ : S67) (Kd.R_mono (Kd.R_tight rfl (Kd.R_mono (ok' := fun k_ => ((fun k_ => k_ ≠ gb260)) k_ ∧ some k_ ≠ (u259001 : Value).ownBlock) (Kd.R_types (Kd.R_apart' (HO283.out) (Kd.S_typed HO_259001.out) (by decide)) BK260.out (by decide)) (fun k_ hk => ⟨hk.2, hk.1.2⟩))) (fun _ h_ => Or.inl h_)) (Kd.R_mono (Kd.R_tight rfl (Kd.R_mono (ok' := fun k_ => ((fun k_ => k_ ≠ gb260)) k_ ∧ some k_ ≠ (u259001 : Value).ownBlock) (Kd.R_types (Kd.R_apart' (HO286.out) (Kd.S_typed HO_259001.out) (by decide)) BK260.out (by decide)) (fun k_ hk => ⟨hk.2, hk.1.2⟩))) (fun _ h_ => Or.inr (Or.inl h_))) (Kd.R_mono (Kd.R_tight rfl (Kd.R_mono (ok' := fun k_ => ((fun k_ => k_ ≠ gb260)) k_ ∧ some k_ ≠ (u259001 : Value).ownBlock) (Kd.R_types (Kd.R_apart' (HO289.out) (Kd.S_typed HO_259001.out) (by decide)) BK260.out (by decide)) (fun k_ hk => ⟨hk.2, hk.1.2⟩))) (fun _ h_ => Or.inr (Or.inr (h_)))))
             (case aB => exact bl_)
             (case aF => exact (fun k_ hk => Kd.freshB (g := gb260) (o := .cells #[.string ((rd_T67 l0_1 x32_2).f0), .int .i64 ((rd_T67 l0_1 x32_2).f1), .int .i64 ((rd_T67 l0_1 x32_2).f2), .string ((rd_T67 l0_1 x32_2).f3), .slice A259_4 ((rd_T67 l0_1 x32_2).f4).length c259_4, .slice A259_5 ((rd_T67 l0_1 x32_2).f5).length c259_5, .slice A259_6 ((rd_T67 l0_1 x32_2).f6).length c259_6] 67 (0, 0)) (bk_ BK260.out) k_ hk))
             (case aO => exact (by (with_reducible repeat (first | apply Kd.S_alloc | apply Kd.S_drewN | apply Kd.S_drew)); exact Kd.S_mono HO_259001.out (fun k_ hk => ⟨hk.1.1.1, fun e_ => e_.elim (fun h_ => hk.1.1.2 h_) (fun h_ => h_.elim (fun h_ => hk.1.2 h_) (fun h_ => hk.2 h_))⟩)))
             (case aS => exact (below_size bl_))
             (case aL => have := LMc53.out; omega)
             intro v291 w65 ho hb hg hat
             rw [← Ny290.out] at ho
             have n0_ := Aside0.mk (blk_grown (g := gb248) (o := .cells #[.int .i64 a0_0, .slice (some ad259) l0_1.length c0_1] 26 (0, 0)) (bk_ BK248.out) hg (Kd.S_ne HO_259001.out BK248.out (by decide)))
             have n1_ := Aside0.mk (blk_grown (g := gb249) (o := .cells #[.int .i64 0, .slice none 0 0] 26 (0, 0)) (bk_ BK249.out) hg (Kd.S_ne HO_259001.out BK249.out (by decide)))
             have n2_ := Aside0.mk (blk_grown (g := gb258) (o := .cells #[.int .i64 (wrap64 (a0_0 + a1)), u259001] 26 (0, 0)) (bk_ BK258.out) hg (Kd.S_ne HO_259001.out BK258.out (by decide)))
             have n3_ := Aside0.mk (blk_grown (g := gb260) (o := .cells #[.string ((rd_T67 l0_1 x32_2).f0), .int .i64 ((rd_T67 l0_1 x32_2).f1), .int .i64 ((rd_T67 l0_1 x32_2).f2), .string ((rd_T67 l0_1 x32_2).f3), .slice A259_4 ((rd_T67 l0_1 x32_2).f4).length c259_4, .slice A259_5 ((rd_T67 l0_1 x32_2).f5).length c259_5, .slice A259_6 ((rd_T67 l0_1 x32_2).f6).length c259_6] 67 (0, 0)) (bk_ BK260.out) hg (Kd.S_away HO_259001.out (fun _ hk => hk.1.1.1)))
             have n4_ := Aside0.mk (hb)
             have n5_ := Aside0.mk (ho)
             clear BK248
             clear BK249
             clear BK258
             clear BK260
             clear HB
             clear HO_259001
             clear HO283
             clear HO286
             clear HO289
             have BK248 := n0_
             have BK249 := n1_
             have BK258 := n2_
             have BK260 := n3_
             have HB := n4_
             have HO292 := n5_
             clear n0_ n1_ n2_ n3_ n4_ n5_
             clear ho hb hg hat
             obtain ⟨Ao69, co69, eo69⟩ := Kd.S_slice HO292.out
             (first | subst eo69 | (injection eo69 with f1_ f2_ f3_; have f4_ := f1_.symm; have f5_ := f3_.symm; clear f1_ f2_ f3_; subst f4_; subst f5_))
             refine hK.out _ _ ⟨(blk_cell BK258.out 0).trans rfl, (blk_cell BK258.out 1).trans rfl, (blk_cell BK260.out 0).trans rfl, (blk_cell BK260.out 1).trans rfl, (blk_cell BK260.out 2).trans rfl, (blk_cell BK260.out 3).trans rfl, (blk_cell BK260.out 4).trans rfl, (blk_cell BK260.out 5).trans rfl, (blk_cell BK260.out 6).trans rfl⟩ (fun hHeld => ?_)
             clear hK K
             refine norm_ (a' := ?_) ?_ ?_
             rotate_left
             ·show Act.put _ (some 51) _ = _
              simp only [Act.put, List.setIfInBounds_toArray, List.set_cons_zero, List.set_cons_succ, i64_w, i32_w]
              rfl
             refine pure_ (i := 6) (N := some 52) (v := ?_) (a' := ?_) #[true, true, true, true, true, true, true, false] rfl rfl (any_of HT_.out (by kernel_rfl)) (fun _ _ _ h => h) (Or.inl ⟨by rfl, ?_⟩) ?_ ?_
             rotate_left
             ·intro w'
              go_simp
              with_reducible rfl
             rotate_left
             ·simp only [Act.put, List.setIfInBounds_toArray, List.set_cons_zero, List.set_cons_succ, i64_w, i32_w]
              rfl
             refine last_ (i := 7) (N := none) #[true, true, true, true, true, true, true, true] rfl rfl (one_of HT_.out (by kernel_rfl)) (by decide) (fun K hK => ?_)
             have hs70 : w65.cell? ⟨gb258, 1, none⟩ = some (u259001) := (blk_cell BK258.out 1).trans rfl
             have hfs70 := blk_frozen BK258.out 1
             have hns70_0 := NB248_258.out
             have hns70_1 := NB249_258.out
             have hns70_3 := NB260_258.out
             have hms70_0 := NB258_248.out
             have hms70_1 := NB258_249.out
             have hms70_3 := NB258_260.out
             refine skip_ (w1 := ?_) (by rfl) rfl ?_ ?_
             rotate_left
             ·go_simp
              rfl
             refine hK.out _ _ ?_
             clear hK K
             refine done_ (done_of HT_.out (by kernel_rfl)) ?_
             try go_wp2
             go_roundg k2
             case measure => have := HJ4.out; have := HK2.out; omega
             case rel => exact ⟨(wrap64 (x32_2 + 1)), (y290), (.slice Ao69 y290.length co69), rs_, H', ⟨by have := HJ4.out; have := HK2.out; omega⟩, ⟨by (with_reducible repeat (first | apply Kd.S_alloc | apply Kd.S_drewN | apply Kd.S_drew)); exact Kd.S_mono (Kd.S_far (p := ⟨gb258, 1, none⟩) (Kd.S_types HO292.out BK258.out (by decide)) (fun _ hk => hk.2) (.slice Ao69 y290.length co69)) (fun _ hk => trivial)⟩, ⟨bf_ BK248.out⟩, ⟨bf_ BK249.out⟩, ⟨by (with_reducible repeat (first | refine blk_drewN ?_ _ | refine blk_drew ?_ | refine blk_alloc ?_ _)); refine blk_put (cs := #[.int .i64 (wrap64 (a0_0 + a1)), u259001]) ?_ 1 _ rfl; (with_reducible repeat (first | refine blk_drewN ?_ _ | refine blk_drew ?_ | refine blk_alloc ?_ _)); exact BK258.out⟩, ⟨bl_⟩⟩
            ·rw [if_neg c53] at H
             exact absurd H (by simp)
           ·rw [if_neg c51] at H
            have c51b0 : decide ((wrap64 (a0_0 + a1)) < ((rd_T67 l0_1 x32_2).f1)) = false := decide_eq_false c51
            clear c51
            have H' := Aside0.mk H
            clear H
            have p259 : 0 ≤ (x32_2 : Int) := od_
            have q259 : x32_2 < (l0_1.length : Int) := od_
            obtain ⟨ad259, A259_4, c259_4, A259_5, c259_5, A259_6, c259_6, e259, hx259_0, hx259_1, hx259_2, hx259_3, hx259_4, hx259_5, hx259_6, hl259_4, hi259_4, hl259_5, hi259_5, hl259_6, hi259_6⟩ := at_T67 HR0_1.out x32_2 p259 q259
            cases e259
            replace hx259_0 := (HB.out.cell (World.block_lt_of_cell? w _ hx259_0)).trans hx259_0
            replace hx259_1 := (HB.out.cell (World.block_lt_of_cell? w _ hx259_1)).trans hx259_1
            replace hx259_2 := (HB.out.cell (World.block_lt_of_cell? w _ hx259_2)).trans hx259_2
            replace hx259_3 := (HB.out.cell (World.block_lt_of_cell? w _ hx259_3)).trans hx259_3
            replace hx259_4 := (HB.out.cell (World.block_lt_of_cell? w _ hx259_4)).trans hx259_4
            replace hx259_5 := (HB.out.cell (World.block_lt_of_cell? w _ hx259_5)).trans hx259_5
            replace hx259_6 := (HB.out.cell (World.block_lt_of_cell? w _ hx259_6)).trans hx259_6
            have HR259_4 := Aside0.mk hi259_4
            have HC259_4 := Aside0.mk hl259_4
            clear hi259_4 hl259_4
            have HR259_5 := Aside0.mk hi259_5
            have HC259_5 := Aside0.mk hl259_5
            clear hi259_5 hl259_5
            have HR259_6 := Aside0.mk hi259_6
            have HC259_6 := Aside0.mk hl259_6
            clear hi259_6 hl259_6
            replace p259 := eq_true p259
            replace q259 := eq_true q259
            go_wp2_with (first | ((with_reducible refine gate_dst (N := 7) rfl ?_); refine box_event ?hg (N := 7) ?hd (cs := #[.string (⟨#[]⟩ : ByteArray), .int .i64 0, .int .i64 0, .string (⟨#[]⟩ : ByteArray), .slice none 0 0, .slice none 0 0, .slice none 0 0]) (t := 67) ?hr ?_; (case hd => rfl); (case hg => rfl); (case hr => first | (go_simp; done) | (go_simp; rfl)); intro gb260 hg w71 hbox hb; have n0_ := Aside0.mk (Kd.S_below (Kd.S_elderB (by (with_reducible repeat (first | apply Kd.S_alloc | apply Kd.S_drewN | apply Kd.S_drew)); exact HO_259001.out) gb260 (Nat.le_of_eq hg.symm)) hb); have n1_ := Aside0.mk (blk_below (g := gb248) (o := .cells #[.int .i64 a0_0, .slice (some ad259) l0_1.length c0_1] 26 (0, 0)) (bk_ BK248.out) hb); have n2_ := Aside0.mk (blk_below (g := gb249) (o := .cells #[.int .i64 0, .slice none 0 0] 26 (0, 0)) (bk_ BK249.out) hb); have n3_ := Aside0.mk (blk_below (g := gb258) (o := .cells #[.int .i64 (wrap64 (a0_0 + a1)), u259001] 26 (0, 0)) (bk_ BK258.out) hb); have n4_ := Aside0.mk (below_step bl_ hb); have n5_ := Aside0.mk (hbox); have n6_ := Aside0.mk ((by rw [hg]; exact (below_size bl_) : w.heap.size ≤ gb260)); have n7_ := Aside0.mk ((by rw [hg]; exact (below_size bl_) : w.heap.size ≤ gb260)); have n8_ := Aside0.mk ((by rw [hg]; exact Nat.ne_of_lt (blk_lt (g := gb248) (o := .cells #[.int .i64 a0_0, .slice (some ad259) l0_1.length c0_1] 26 (0, 0)) (bk_ BK248.out)) : gb248 ≠ gb260)); have n9_ := Aside0.mk ((by rw [hg]; exact Nat.ne_of_gt (blk_lt (g := gb248) (o := .cells #[.int .i64 a0_0, .slice (some ad259) l0_1.length c0_1] 26 (0, 0)) (bk_ BK248.out)) : gb260 ≠ gb248)); have n10_ := Aside0.mk ((by rw [hg]; exact Nat.ne_of_lt (blk_lt (g := gb249) (o := .cells #[.int .i64 0, .slice none 0 0] 26 (0, 0)) (bk_ BK249.out)) : gb249 ≠ gb260)); have n11_ := Aside0.mk ((by rw [hg]; exact Nat.ne_of_gt (blk_lt (g := gb249) (o := .cells #[.int .i64 0, .slice none 0 0] 26 (0, 0)) (bk_ BK249.out)) : gb260 ≠ gb249)); have n12_ := Aside0.mk ((by rw [hg]; exact Nat.ne_of_lt (blk_lt (g := gb258) (o := .cells #[.int .i64 (wrap64 (a0_0 + a1)), u259001] 26 (0, 0)) (bk_ BK258.out)) : gb258 ≠ gb260)); have n13_ := Aside0.mk ((by rw [hg]; exact Nat.ne_of_gt (blk_lt (g := gb258) (o := .cells #[.int .i64 (wrap64 (a0_0 + a1)), u259001] 26 (0, 0)) (bk_ BK258.out)) : gb260 ≠ gb258)); clear HO_259001; clear BK248; clear BK249; clear BK258; clear HB; have HO_259001 := n0_; have BK248 := n1_; have BK249 := n2_; have BK258 := n3_; have HB := n4_; have BK260 := n5_; have GW260 := n6_; have GE260 := n7_; have NB248_260 := n8_; have NB260_248 := n9_; have NB249_260 := n10_; have NB260_249 := n11_; have NB258_260 := n12_; have NB260_258 := n13_; clear n0_ n1_ n2_ n3_ n4_ n5_ n6_ n7_ n8_ n9_ n10_ n11_ n12_ n13_; clear hb hbox hg; have hnb72 := NB260_248.out; have hnc72 := NB248_260.out; have hnb73 := NB260_249.out; have hnc73 := NB249_260.out; have hnb74 := NB260_258.out; have hnc74 := NB258_260.out; have hcz75_0 : w71.cell? ⟨gb260, 0, none⟩ = some (.string (⟨#[]⟩ : ByteArray)) := (blk_cell BK260.out 0).trans rfl; have hcz75_1 : w71.cell? ⟨gb260, 1, none⟩ = some (.int .i64 0) := (blk_cell BK260.out 1).trans rfl; have hcz75_2 : w71.cell? ⟨gb260, 2, none⟩ = some (.int .i64 0) := (blk_cell BK260.out 2).trans rfl; have hcz75_3 : w71.cell? ⟨gb260, 3, none⟩ = some (.string (⟨#[]⟩ : ByteArray)) := (blk_cell BK260.out 3).trans rfl; have hcz75_4 : w71.cell? ⟨gb260, 4, none⟩ = some (.slice none 0 0) := (blk_cell BK260.out 4).trans rfl; have hcz75_5 : w71.cell? ⟨gb260, 5, none⟩ = some (.slice none 0 0) := (blk_cell BK260.out 5).trans rfl; have hcz75_6 : w71.cell? ⟨gb260, 6, none⟩ = some (.slice none 0 0) := (blk_cell BK260.out 6).trans rfl; have hfz75_0 := blk_frozen BK260.out 0; have hfz75_1 := blk_frozen BK260.out 1; have hfz75_2 := blk_frozen BK260.out 2; have hfz75_3 := blk_frozen BK260.out 3; have hfz75_4 := blk_frozen BK260.out 4; have hfz75_5 := blk_frozen BK260.out 5; have hfz75_6 := blk_frozen BK260.out 6; have hnb76 := NB258_248.out; have hnc76 := NB248_258.out; have hnb77 := NB258_249.out; have hnc77 := NB249_258.out; have hcz78_0 : w71.cell? ⟨gb258, 0, none⟩ = some (.int .i64 (wrap64 (a0_0 + a1))) := (blk_cell BK258.out 0).trans rfl; have hcz78_1 : w71.cell? ⟨gb258, 1, none⟩ = some (u259001) := (blk_cell BK258.out 1).trans rfl; have hfz78_0 := blk_frozen BK258.out 0; have hfz78_1 := blk_frozen BK258.out 1))
            go_roundg k2
            case measure => have := HJ4.out; have := HK2.out; omega
            case rel => exact ⟨(wrap64 (x32_2 + 1)), (x259001_2), (u259001), rs_, H', ⟨by have := HJ4.out; have := HK2.out; omega⟩, ⟨by (with_reducible repeat (first | apply Kd.S_alloc | apply Kd.S_drewN | apply Kd.S_drew)); exact Kd.S_mono (Kd.S_far (p := ⟨gb260, 6, none⟩) (Kd.S_far (p := ⟨gb260, 5, none⟩) (Kd.S_far (p := ⟨gb260, 4, none⟩) (Kd.S_far (p := ⟨gb260, 3, none⟩) (Kd.S_far (p := ⟨gb260, 2, none⟩) (Kd.S_far (p := ⟨gb260, 1, none⟩) (Kd.S_far (p := ⟨gb260, 0, none⟩) (Kd.S_mono HO_259001.out (fun k_ hk => (⟨hk, hk.2⟩ : _ ∧ k_ ≠ gb260))) (fun _ hk => hk.2) (.string ((rd_T67 l0_1 x32_2).f0))) (fun _ hk => hk.2) (.int .i64 ((rd_T67 l0_1 x32_2).f1))) (fun _ hk => hk.2) (.int .i64 ((rd_T67 l0_1 x32_2).f2))) (fun _ hk => hk.2) (.string ((rd_T67 l0_1 x32_2).f3))) (fun _ hk => hk.2) (.slice A259_4 ((rd_T67 l0_1 x32_2).f4).length c259_4)) (fun _ hk => hk.2) (.slice A259_5 ((rd_T67 l0_1 x32_2).f5).length c259_5)) (fun _ hk => hk.2) (.slice A259_6 ((rd_T67 l0_1 x32_2).f6).length c259_6)) (fun _ hk => trivial)⟩, ⟨bf_ BK248.out⟩, ⟨bf_ BK249.out⟩, ⟨bf_ BK258.out⟩, ⟨bl_⟩⟩
         ·rw [if_neg c33] at H
          exact absurd H (by simp)
        ·rw [if_neg c32] at H
         exact absurd H (by simp)
       ·rw [if_neg c31] at H
        have c31b0 : decide (x32_2 < (l0_1.length : Int)) = false := decide_eq_false c31
        clear c31
        simp only [Option.some.injEq, Prod.mk.injEq] at H
        obtain ⟨rfl, rfl⟩ := H
        have hnb79 := NB258_248.out
        have hnc79 := NB248_258.out
        have hnb80 := NB258_249.out
        have hnc80 := NB249_258.out
        have hcz81_0 : wr.cell? ⟨gb258, 0, none⟩ = some (.int .i64 (wrap64 (a0_0 + a1))) := (blk_cell BK258.out 0).trans rfl
        have hcz81_1 : wr.cell? ⟨gb258, 1, none⟩ = some (u259001) := (blk_cell BK258.out 1).trans rfl
        have hfz81_0 := blk_frozen BK258.out 0
        have hfz81_1 := blk_frozen BK258.out 1
        have hnb82 := NB249_248.out
        have hnc82 := NB248_249.out
        have hcz83_0 : wr.cell? ⟨gb249, 0, none⟩ = some (.int .i64 0) := (blk_cell BK249.out 0).trans rfl
        have hcz83_1 : wr.cell? ⟨gb249, 1, none⟩ = some (.slice none 0 0) := (blk_cell BK249.out 1).trans rfl
        have hfz83_0 := blk_frozen BK249.out 0
        have hfz83_1 := blk_frozen BK249.out 1
        obtain ⟨Ao84, co84, eo84⟩ := Kd.S_slice HO_259001.out
        subst eo84
        go_wp2
        refine bodyPost_ret (results_cell_row rfl _ _ gb249 26 #[.int .i64 (wrap64 (a0_0 + a1)), .slice Ao84 x259001_2.length co84] (0, 0) _ rfl (by (with_reducible repeat (first | refine blk_drewN ?_ _ | refine blk_drew ?_ | refine blk_alloc ?_ _)); refine blk_put (cs := #[.int .i64 (wrap64 (a0_0 + a1)), .slice none 0 0]) ?_ 1 _ rfl; (with_reducible repeat (first | refine blk_drewN ?_ _ | refine blk_drew ?_ | refine blk_alloc ?_ _)); refine blk_put (cs := #[.int .i64 0, .slice none 0 0]) ?_ 0 _ rfl; (with_reducible repeat (first | refine blk_drewN ?_ _ | refine blk_drew ?_ | refine blk_alloc ?_ _)); exact BK249.out) Tryz.underlying26 rfl (by kernel_rfl)) rfl ?_
        exact ⟨_, by first | rfl | (simp [errW_none, errW_some] <;> rfl) | (simp [*, errW_none, errW_some] <;> rfl), by (with_reducible repeat (first | apply Kd.S_alloc | apply Kd.S_drewN | apply Kd.S_drew)); exact Kd.S_mono (Kd.S_far (p := ⟨gb249, 1, none⟩) (Kd.S_far (p := ⟨gb249, 0, none⟩) (Kd.S_types HO_259001.out BK249.out (by decide)) (fun _ hk => hk.2) (.int .i64 (wrap64 (a0_0 + a1)))) (fun _ hk => hk.2) (.slice Ao84 x259001_2.length co84)) (fun _ hk => trivial), bl_⟩
 ·replace c4 := Bool.eq_false_iff.mpr c4
  subst c4
  have H1 : (some (0, ([] : List (S67)))) = some (r1, r2) := by rw [if_neg (show ¬ (false = true) by decide)] at H; exact H
  clear H
  have H := H1
  clear H1
  simp only [Option.some.injEq, Prod.mk.injEq] at H
  obtain ⟨rfl, rfl⟩ := H
  go_enter Tryz.func32, Tryz.ntmps32
  go_wp2_with (first | ((with_reducible refine gate_dst (N := 2) rfl ?_); refine box_event ?hg (N := 2) ?hd (cs := #[.int .i64 a0_0, .slice A0_1 l0_1.length c0_1]) (t := 26) ?hr ?_; (case hd => rfl); (case hg => rfl); (case hr => first | (go_simp; done) | (go_simp; rfl)); intro gb248 hg w85 hbox hb; have n0_ := Aside0.mk (below_step bl_ hb); have n1_ := Aside0.mk (hbox); have n2_ := Aside0.mk ((by rw [hg]; exact (below_size bl_) : w.heap.size ≤ gb248)); have n3_ := Aside0.mk ((by rw [hg]; exact (below_size bl_) : w.heap.size ≤ gb248)); clear HB; have HB := n0_; have BK248 := n1_; have GW248 := n2_; have GE248 := n3_; clear n0_ n1_ n2_ n3_; clear hb hbox hg) | ((with_reducible refine gate_dst (N := 4) rfl ?_); refine box_event ?hg (N := 4) ?hd (cs := #[.int .i64 0, .slice none 0 0]) (t := 26) ?hr ?_; (case hd => rfl); (case hg => rfl); (case hr => first | (go_simp; done) | (go_simp; rfl)); intro gb249 hg w86 hbox hb; have n0_ := Aside0.mk (blk_below (g := gb248) (o := .cells #[.int .i64 a0_0, .slice A0_1 l0_1.length c0_1] 26 (0, 0)) (bk_ BK248.out) hb); have n1_ := Aside0.mk (below_step bl_ hb); have n2_ := Aside0.mk (hbox); have n3_ := Aside0.mk ((by rw [hg]; exact (below_size bl_) : w.heap.size ≤ gb249)); have n4_ := Aside0.mk ((by rw [hg]; exact (below_size bl_) : w.heap.size ≤ gb249)); have n5_ := Aside0.mk ((by rw [hg]; exact Nat.ne_of_lt (blk_lt (g := gb248) (o := .cells #[.int .i64 a0_0, .slice A0_1 l0_1.length c0_1] 26 (0, 0)) (bk_ BK248.out)) : gb248 ≠ gb249)); have n6_ := Aside0.mk ((by rw [hg]; exact Nat.ne_of_gt (blk_lt (g := gb248) (o := .cells #[.int .i64 a0_0, .slice A0_1 l0_1.length c0_1] 26 (0, 0)) (bk_ BK248.out)) : gb249 ≠ gb248)); clear BK248; clear HB; have BK248 := n0_; have HB := n1_; have BK249 := n2_; have GW249 := n3_; have GE249 := n4_; have NB248_249 := n5_; have NB249_248 := n6_; clear n0_ n1_ n2_ n3_ n4_ n5_ n6_; clear hb hbox hg; have hnb87 := NB248_249.out; have hnc87 := NB249_248.out; have hcz88_0 : w86.cell? ⟨gb248, 0, none⟩ = some (.int .i64 a0_0) := (blk_cell BK248.out 0).trans rfl; have hcz88_1 : w86.cell? ⟨gb248, 1, none⟩ = some (.slice A0_1 l0_1.length c0_1) := (blk_cell BK248.out 1).trans rfl; have hfz88_0 := blk_frozen BK248.out 0; have hfz88_1 := blk_frozen BK248.out 1) | ((with_reducible refine gate_callee (f := 29) rfl ?_); refine goesL_ (some 9) rfl rfl Tryz.func29 (by kernel_rfl) rfl #[.agg #[.int .i64 a0_0, .slice A0_1 l0_1.length c0_1]] rfl ga_ ?_; (with_reducible refine (impl_BaseOk.calls a0_0 _ _ l0_1 false _ ?side1 ?side2 A3.out).mono ?_); (case side1 => repeat (first | exact (Kd.C_below HR0_1.out HB.out) | (with_reducible refine Kd.C_alloc ?_ _) | (with_reducible refine Kd.C_drewN ?_ _) | (with_reducible refine Kd.C_drew ?_))); (case side2 => exact HC0_1.out); rintro e w89 ⟨rfl, hb⟩; refine ⟨_, rfl, ?_⟩; have n0_ := Aside0.mk (blk_below (g := gb248) (o := .cells #[.int .i64 a0_0, .slice A0_1 l0_1.length c0_1] 26 (0, 0)) (bk_ BK248.out) hb); have n1_ := Aside0.mk (blk_below (g := gb249) (o := .cells #[.int .i64 0, .slice none 0 0] 26 (0, 0)) (bk_ BK249.out) hb); have n2_ := Aside0.mk (below_step bl_ hb); clear BK248; clear BK249; clear HB; have BK248 := n0_; have BK249 := n1_; have HB := n2_; clear n0_ n1_ n2_; (try clear hb); (try clear hb2); (try clear hk); (try clear hi); have hcz90_0 : w89.cell? ⟨gb249, 0, none⟩ = some (.int .i64 0) := (blk_cell BK249.out 0).trans rfl; have hcz90_1 : w89.cell? ⟨gb249, 1, none⟩ = some (.slice none 0 0) := (blk_cell BK249.out 1).trans rfl; have hfz90_0 := blk_frozen BK249.out 0; have hfz90_1 := blk_frozen BK249.out 1))
  refine bodyPost_ret (results_cell_row rfl _ _ gb249 26 #[.int .i64 0, .slice none 0 0] (0, 0) _ rfl (by (with_reducible repeat (first | refine blk_drewN ?_ _ | refine blk_drew ?_ | refine blk_alloc ?_ _)); refine blk_put (cs := #[.int .i64 0, .slice none 0 0]) ?_ 1 _ rfl; (with_reducible repeat (first | refine blk_drewN ?_ _ | refine blk_drew ?_ | refine blk_alloc ?_ _)); refine blk_put (cs := #[.int .i64 0, .slice none 0 0]) ?_ 0 _ rfl; (with_reducible repeat (first | refine blk_drewN ?_ _ | refine blk_drew ?_ | refine blk_alloc ?_ _)); exact BK249.out) Tryz.underlying26 rfl (by kernel_rfl)) rfl ?_
  exact ⟨_, by first | rfl | (simp [errW_none, errW_some] <;> rfl) | (simp [*, errW_none, errW_some] <;> rfl), by first | exact Kd.S_nil _ _ _ _ _ | exact Kd.N_nil _ _ _ _ _ | exact Kd.V_nil _ _ _ _ _ | exact Kd.Q_nil _ _ _ _ _ | exact Kd.R_nil _ _ _ _ _, bl_⟩

/-! ### impl_OrderGet: function 50 -/
theorem blk_newAt (w : World) (o : Obj) (n : Nat) (h : n = w.heap.size) : (w.alloc o).heap[n]? = some o := by
 subst h
 show (w.heap.push o)[w.heap.size]? = some o
 exact Array.getElem?_push_size
set_option maxHeartbeats 1000000 in
set_option maxRecDepth 100000 in
theorem orderGet_nil (w : World) : Calls Tryz.prog 50 #[.string ⟨#[]⟩] w fun e w' => ∃ v0_ : Value, e = .returned (.tuple #[v0_, .int .i64 0]) ∧ Kd.R Kd.string 9 w' w.heap.size (fun _ => True) v0_ [] ∧ Below w.heap.size w w' := by
 have hu := Tryz.underlying109
 go_enter Tryz.func50, Tryz.ntmps50
 go_wp2
 go_quiet (fail)
 go_wp2
 go_end0
 go_wp2
 go_quiet (fail)
 go_wp2
 refine wp_loop_rounds 1 ?_
 rw [rounds_succ]
 go_wp2
 go_end0
 go_wp2
 go_end0
 go_wp2
 refine wp_loop_rounds 1 ?_
 rw [rounds_succ]
 go_wp2
 go_ret2
 refine ⟨_, rfl, ?_, ?_⟩
 ·refine ⟨fun _ _ => trivial, [], ⟨rfl, .inr ⟨_, 0, #[], rfl, ?_, blk_newAt _ _ _ (by simp), Nat.le_refl _, Nat.zero_le _, rfl, rfl⟩⟩, Reps.none _ _⟩
  omega
 ·repeat (first | (with_reducible first | exact Below.refl _ _ | apply below_alloc | apply pw_below_drewN | apply below_drew1 | refine below_set ?_ (Nat.le_refl _)) | exact Below.refl _ _)
def impl_OrderGet.f (a0 : ByteArray) : Option ((List ByteArray) × Int) := if a0.size = 0 then some ([], 0) else none
theorem impl_OrderGet.calls (a0 : ByteArray) (r1 : List ByteArray) (r2 : Int) (w : World) (h : impl_OrderGet.f a0 = some (r1, r2)) :
  Calls Tryz.prog 50 #[.string a0] w fun e w' => ∃ v0_ : Value, e = .returned (.tuple #[v0_, .int .i64 r2]) ∧ Kd.R Kd.string 9 w' w.heap.size (fun _ => True) v0_ r1 ∧ Below w.heap.size w w' := by
 unfold impl_OrderGet.f at h
 split at h
 ·rename_i he
  obtain ⟨rfl, rfl⟩ : [] = r1 ∧ 0 = r2 := by simpa using h
  obtain rfl : a0 = ⟨#[]⟩ := by
   obtain ⟨d⟩ := a0
   have h2 : d.size = 0 := he
   rw [Array.eq_empty_of_size_eq_zero h2]
  exact orderGet_nil w
 ·cases h

/-! ### impl_IntGet: function 51 -/
def impl_IntGet.f (a0 : ByteArray) : Option (Int × Bool) := none
theorem impl_IntGet.calls (a0 : ByteArray) (r1 : Int) (r2 : Bool) (w : World) (h : impl_IntGet.f a0 = some (r1, r2)) :
  Calls Tryz.prog 51 #[.string a0] w fun e w' => e = .returned (.tuple #[.int .i64 r1, .bool r2]) ∧ Below w.heap.size w w' := by
 cases h

end Go.Proofs.YtkgomifdmpkaeaaGreatDoor.Ldn
