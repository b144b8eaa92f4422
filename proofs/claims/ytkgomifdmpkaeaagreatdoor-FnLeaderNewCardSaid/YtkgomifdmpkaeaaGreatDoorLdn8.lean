/- Contracts of functions of the program: each call returns what the plain function '.f' of that name says, wherever it says something. -/
import Derived.Test.YtkgomifdmpkaeaaGreatDoorLdn0
import Derived.Test.YtkgomifdmpkaeaaGreatDoorLdn6
import Derived.Test.YtkgomifdmpkaeaaGreatDoorLdn7
namespace Go.Proofs.YtkgomifdmpkaeaaGreatDoor.Ldn
open Go.RowKit Go.Proofs.YtkgomifdmpkaeaaGreatDoorW.PrintWords Go.Proofs.YtkgomifdmpkaeaaGreatDoorW.PrintLast Go.Proofs.YtkgomifdmpkaeaaGreatDoorW.PrintMore
attribute [local go_sem] max2_int min2_int max_two min_two max_three min_three max_four min_four   -- for this text's walks alone
set_option linter.unusedVariables false
set_option linter.unusedSimpArgs false

/-! ### impl_FileBase: function 30 -/
mutual
def impl_FileBase.l0 : Nat → ByteArray → Int → Int → List (S67) → Option (Int × (List (S67)) × Int)
 | 0, _, _, _, _ => none
 | k + 1, x0, x5, x330000, x330001 => if 0 ≤ x5 then (if x5 ≤ (x0.size : Int) then ((impl_RecordGet.f k (x0.extract (x5 : Int).toNat x0.size)).bind fun bt330 => (if bt330.2.2 = 0 then (impl_FileBase.j1 k x0 x5 bt330.1 bt330.2.1 bt330.2.2 true x330000 x330001) else (impl_FileBase.j1 k x0 x5 bt330.1 bt330.2.1 bt330.2.2 (decide (bt330.1 < x330000)) x330000 x330001))) else (none)) else (none)
def impl_FileBase.j1 : Nat → ByteArray → Int → Int → List (List ByteArray) → Int → Bool → Int → List (S67) → Option (Int × (List (S67)) × Int)
 | 0, _, _, _, _, _, _, _, _ => none
 | k + 1, x0, x5, x6, x7, x8, x31, x330000, x330001 => if x31 = true then (some (x330000, x330001, x5)) else ((impl_BaseTick.f k x330000 x330001 (wrap64 (x6 - x330000))).bind fun bt335 => (impl_FileBase.l1 k x0 x5 x8 x7 (x7.length : Int) 0 x330000 x330001 bt335.1 bt335.2))
def impl_FileBase.l1 : Nat → ByteArray → Int → Int → List (List ByteArray) → Int → Int → Int → List (S67) → Int → List (S67) → Option (Int × (List (S67)) × Int)
 | 0, _, _, _, _, _, _, _, _, _, _ => none
 | k + 1, x0, x5, x8, x40, x41, x42, x330000, x330001, x340000, x340001 => if x42 < x41 then (if 0 ≤ x42 then (if x42 < (x40.length : Int) then ((impl_Do.f x340000 x340001 (rd_L2 x40 x42)).bind fun bt341 => (if bt341.2.2.1 = 1 then (some (x330000, x330001, x5)) else (impl_FileBase.l1 k x0 x5 x8 x40 x41 (wrap64 (x42 + 1)) x330000 x330001 bt341.1 bt341.2.1))) else (none)) else (none)) else (impl_FileBase.l0 k x0 (wrap64 (x5 + x8)) x340000 x340001)
end
def impl_FileBase.f (k : Nat) (a0 : ByteArray) : Option (Int × (List (S67)) × Int) := impl_FileBase.l0 k a0 0 0 (([] : List (S67)))
theorem impl_FileBase.mono_l : ∀ k, (∀ y0 y1 y2 y3, LeO (impl_FileBase.l0 k y0 y1 y2 y3) (impl_FileBase.l0 (k + 1) y0 y1 y2 y3)) ∧ (∀ y0 y1 y2 y3 y4 y5 y6 y7, LeO (impl_FileBase.j1 k y0 y1 y2 y3 y4 y5 y6 y7) (impl_FileBase.j1 (k + 1) y0 y1 y2 y3 y4 y5 y6 y7)) ∧ (∀ y0 y1 y2 y3 y4 y5 y6 y7 y8 y9, LeO (impl_FileBase.l1 k y0 y1 y2 y3 y4 y5 y6 y7 y8 y9) (impl_FileBase.l1 (k + 1) y0 y1 y2 y3 y4 y5 y6 y7 y8 y9))
 | 0 => ⟨fun _ _ _ _ r h => by simp [impl_FileBase.l0] at h, fun _ _ _ _ _ _ _ _ r h => by simp [impl_FileBase.j1] at h, fun _ _ _ _ _ _ _ _ _ _ r h => by simp [impl_FileBase.l1] at h⟩
 | k + 1 => by
  obtain ⟨ih0, ih1, ih2⟩ := impl_FileBase.mono_l k
  refine ⟨?_, ?_, ?_⟩
  ·intro y0 y1 y2 y3
   unfold impl_FileBase.l0
   repeat' first
   | (with_reducible exact ih0 _ _ _ _)
   | (with_reducible exact ih1 _ _ _ _ _ _ _ _)
   | (with_reducible exact ih2 _ _ _ _ _ _ _ _ _ _)
   | (with_reducible exact impl_BaseTick.mono _ _ _ _)
   | (with_reducible exact impl_RecordGet.mono _ _)
   | (with_reducible exact LeO.refl _)
   | (with_reducible exact LeO.none _)
   | (with_reducible refine LeO.ite ?_ ?_)
   | (with_reducible refine LeO.bind ?_ (fun _ => ?_))
   | exact ih0 _ _ _ _
   | exact ih1 _ _ _ _ _ _ _ _
   | exact ih2 _ _ _ _ _ _ _ _ _ _
   | exact impl_BaseTick.mono _ _ _ _
   | exact impl_RecordGet.mono _ _
   | exact LeO.none _
   | refine LeO.ite ?_ ?_
   | refine LeO.bind ?_ (fun _ => ?_)
  ·intro y0 y1 y2 y3 y4 y5 y6 y7
   unfold impl_FileBase.j1
   repeat' first
   | (with_reducible exact ih0 _ _ _ _)
   | (with_reducible exact ih1 _ _ _ _ _ _ _ _)
   | (with_reducible exact ih2 _ _ _ _ _ _ _ _ _ _)
   | (with_reducible exact impl_BaseTick.mono _ _ _ _)
   | (with_reducible exact impl_RecordGet.mono _ _)
   | (with_reducible exact LeO.refl _)
   | (with_reducible exact LeO.none _)
   | (with_reducible refine LeO.ite ?_ ?_)
   | (with_reducible refine LeO.bind ?_ (fun _ => ?_))
   | exact ih0 _ _ _ _
   | exact ih1 _ _ _ _ _ _ _ _
   | exact ih2 _ _ _ _ _ _ _ _ _ _
   | exact impl_BaseTick.mono _ _ _ _
   | exact impl_RecordGet.mono _ _
   | exact LeO.none _
   | refine LeO.ite ?_ ?_
   | refine LeO.bind ?_ (fun _ => ?_)
  ·intro y0 y1 y2 y3 y4 y5 y6 y7 y8 y9
   unfold impl_FileBase.l1
   repeat' first
   | (with_reducible exact ih0 _ _ _ _)
   | (with_reducible exact ih1 _ _ _ _ _ _ _ _)
   | (with_reducible exact ih2 _ _ _ _ _ _ _ _ _ _)
   | (with_reducible exact impl_BaseTick.mono _ _ _ _)
   | (with_reducible exact impl_RecordGet.mono _ _)
   | (with_reducible exact LeO.refl _)
   | (with_reducible exact LeO.none _)
   | (with_reducible refine LeO.ite ?_ ?_)
   | (with_reducible refine LeO.bind ?_ (fun _ => ?_))
   | exact ih0 _ _ _ _
   | exact ih1 _ _ _ _ _ _ _ _
   | exact ih2 _ _ _ _ _ _ _ _ _ _
   | exact impl_BaseTick.mono _ _ _ _
   | exact impl_RecordGet.mono _ _
   | exact LeO.none _
   | refine LeO.ite ?_ ?_
   | refine LeO.bind ?_ (fun _ => ?_)
theorem impl_FileBase.mono : ∀ a0 k, LeO (impl_FileBase.f k a0) (impl_FileBase.f (k + 1) a0) := by
 intro a0 k
 obtain ⟨ih0, ih1, ih2⟩ := impl_FileBase.mono_l k
 unfold impl_FileBase.f
 repeat' first
   | (with_reducible exact ih0 _ _ _ _)
   | (with_reducible exact ih1 _ _ _ _ _ _ _ _)
   | (with_reducible exact ih2 _ _ _ _ _ _ _ _ _ _)
   | (with_reducible exact impl_BaseTick.mono _ _ _ _)
   | (with_reducible exact impl_RecordGet.mono _ _)
   | (with_reducible exact LeO.refl _)
   | (with_reducible exact LeO.none _)
   | (with_reducible refine LeO.ite ?_ ?_)
   | (with_reducible refine LeO.bind ?_ (fun _ => ?_))
   | exact ih0 _ _ _ _
   | exact ih1 _ _ _ _ _ _ _ _
   | exact ih2 _ _ _ _ _ _ _ _ _ _
   | exact impl_BaseTick.mono _ _ _ _
   | exact impl_RecordGet.mono _ _
   | exact LeO.none _
   | refine LeO.ite ?_ ?_
   | refine LeO.bind ?_ (fun _ => ?_)
set_option maxHeartbeats 8000000 in
set_option maxRecDepth 100000 in
theorem impl_FileBase.calls (k : Nat) (a0 : ByteArray) (r1 : Int) (r2 : List (S67)) (r3 : Int) (w : World) (h : impl_FileBase.f k a0 = some (r1, r2, r3)) :
  Calls Tryz.prog 30 #[.string a0] w fun e w' => ∃ v1_ : Value, e = .returned (.tuple #[.agg #[.int .i64 r1, v1_], .int .i64 r3]) ∧ Kd.S k67 67 w' w.heap.size (fun _ => True) v1_ r2 ∧ Below w.heap.size w w' := by
 have hu26 := Tryz.underlying26
 have hu83 := Tryz.underlying83
 have HB := Aside0.mk (Below.refl w.heap.size w)
 have H : (impl_FileBase.l0 k a0 0 0 (([] : List (S67)))) = some (r1, r2, r3) := h
 clear h
 obtain ⟨y326, hy326⟩ : ∃ y_ : List (S67), y_ = (([] : List (S67))) := ⟨_, rfl⟩
 replace H : (impl_FileBase.l0 k a0 0 0 y326) = some (r1, r2, r3) := by first | (rw [hy326]; with_reducible exact H) | (have H2_ := (Option.bind_some _ _).symm.trans H; rw [hy326]; with_reducible exact H2_) | (have H2_ := (Option.bind_some _ _).symm.trans H; with_reducible exact H2_) | with_reducible exact H | (rw [hy326]; exact H) | exact H
 have Ny326 := Aside0.mk hy326
 clear hy326
 have H' := Aside0.mk H
 clear H
 go_enter Tryz.func30, Tryz.ntmps30
 go_wp2_with (first | ((with_reducible refine gate_dst (N := 2) rfl ?_); refine box_event ?hg (N := 2) ?hd (cs := #[.int .i64 0, .slice none 0 0]) (t := 26) ?hr ?_; (case hd => rfl); (case hg => rfl); (case hr => first | (go_simp; done) | (go_simp; rfl)); intro gb325 hg w2 hbox hb; have n0_ := Aside0.mk (below_step bl_ hb); have n1_ := Aside0.mk (hbox); have n2_ := Aside0.mk ((by rw [hg]; exact (below_size bl_) : w.heap.size ≤ gb325)); have n3_ := Aside0.mk ((by rw [hg]; exact (below_size bl_) : w.heap.size ≤ gb325)); clear HB; have HB := n0_; have BK325 := n1_; have GW325 := n2_; have GE325 := n3_; clear n0_ n1_ n2_ n3_; clear hb hbox hg) | ((with_reducible refine gate_dst (N := 14) rfl ?_); refine Kd.S_lit k67 _ 67 ?hg (N := 14) ?hd (xs := ([] : List (S67))) (inner := []) (ok := fun _ => True) (okp := fun _ => True) ?hr ?hp (fun _ hk => hk) trivial (Below.refl _ _) (Nat.le_refl _) (by simp) ?_; (case hd => rfl); (case hg => rfl); (case hr => first | (go_simp; done) | (go_simp; rfl)); (case hp => exact (Reps.none _ _)); intro v327 w3 ho4 hb hg_ hnew_; clear hg_ hnew_; (first | rw [← Ny326.out] at ho4 | (simp only [Int.reduceToNat] at ho4; rw [← Ny326.out] at ho4)); have n0_ := Aside0.mk (Kd.S_lower ho4 (below_size bl_)); have n1_ := Aside0.mk (blk_below (g := gb325) (o := .cells #[.int .i64 0, .slice none 0 0] 26 (0, 0)) (bk_ BK325.out) hb); have n2_ := Aside0.mk (below_step bl_ hb); clear BK325; clear HB; have HO328 := n0_; have BK325 := n1_; have HB := n2_; clear n0_ n1_ n2_; clear hb ho4; obtain ⟨Ao5, co5, eo5⟩ := Kd.S_slice HO328.out; subst eo5) | ((with_reducible refine gate_dst (N := 4) rfl ?_); refine box_event ?hg (N := 4) ?hd (cs := #[.int .i64 0, .slice none 0 0]) (t := 26) ?hr ?_; (case hd => rfl); (case hg => rfl); (case hr => first | (go_simp; done) | (go_simp; rfl)); intro gb329 hg w6 hbox hb; have n0_ := Aside0.mk (Kd.S_below (by (with_reducible repeat (first | apply Kd.S_alloc | apply Kd.S_drewN | apply Kd.S_drew)); exact HO328.out) hb); have n1_ := Aside0.mk (blk_below (g := gb325) (o := .cells #[.int .i64 0, .slice none 0 0] 26 (0, 0)) (bk_ BK325.out) hb); have n2_ := Aside0.mk (below_step bl_ hb); have n3_ := Aside0.mk (hbox); have n4_ := Aside0.mk ((by rw [hg]; exact (below_size bl_) : w.heap.size ≤ gb329)); have n5_ := Aside0.mk ((by rw [hg]; exact (below_size bl_) : w.heap.size ≤ gb329)); have n6_ := Aside0.mk ((by rw [hg]; exact Nat.ne_of_lt (blk_lt (g := gb325) (o := .cells #[.int .i64 0, .slice none 0 0] 26 (0, 0)) (bk_ BK325.out)) : gb325 ≠ gb329)); have n7_ := Aside0.mk ((by rw [hg]; exact Nat.ne_of_gt (blk_lt (g := gb325) (o := .cells #[.int .i64 0, .slice none 0 0] 26 (0, 0)) (bk_ BK325.out)) : gb329 ≠ gb325)); clear HO328; clear BK325; clear HB; have HO328 := n0_; have BK325 := n1_; have HB := n2_; have BK329 := n3_; have GW329 := n4_; have GE329 := n5_; have NB325_329 := n6_; have NB329_325 := n7_; clear n0_ n1_ n2_ n3_ n4_ n5_ n6_ n7_; clear hb hbox hg; have hnb7 := NB329_325.out; have hnc7 := NB325_329.out; have hcz8_0 : w6.cell? ⟨gb329, 0, none⟩ = some (.int .i64 0) := (blk_cell BK329.out 0).trans rfl; have hcz8_1 : w6.cell? ⟨gb329, 1, none⟩ = some (.slice none 0 0) := (blk_cell BK329.out 1).trans rfl; have hfz8_0 := blk_frozen BK329.out 0; have hfz8_1 := blk_frozen BK329.out 1))
 go_loopg [5] k (fun kq v5 w' => ∃ (x5_1 : Int) (x326000_1 : Int) (x330000_1 : Int) (x330001_1 : List (S67)) (u330001 : Value), v5 = .int .i64 x5_1 ∧ Aside0 (impl_FileBase.l0 kq a0 x5_1 x330000_1 x330001_1 = some (r1, r2, r3)) ∧ Aside0 (kq ≤ k) ∧ Aside0 (Kd.S k67 67 w' w.heap.size (fun _ => True) u330001 x330001_1) ∧ Aside0 (w'.heap[gb325]? = some (.cells #[.int .i64 x326000_1, (.slice none 0 0)] 26 (0, 0))) ∧ Aside0 (w'.heap[gb329]? = some (.cells #[.int .i64 x330000_1, u330001] 26 (0, 0))) ∧ Aside0 (Below w.heap.size w w'))
 case atStart => exact ⟨(0), (0), (0), (y326), (.slice Ao5 y326.length co5), rs_, H', ⟨Nat.le_refl _⟩, ⟨by (with_reducible repeat (first | apply Kd.S_alloc | apply Kd.S_drewN | apply Kd.S_drew)); exact Kd.S_mono (Kd.S_far (p := ⟨gb329, 1, none⟩) (Kd.S_far (p := ⟨gb329, 0, none⟩) (Kd.S_types HO328.out BK329.out (by decide)) (fun _ hk => hk.2) (.int .i64 0)) (fun _ hk => hk.2) (.slice Ao5 y326.length co5)) (fun _ hk => trivial)⟩, ⟨bf_ BK325.out⟩, ⟨by (with_reducible repeat (first | refine blk_drewN ?_ _ | refine blk_drew ?_ | refine blk_alloc ?_ _)); refine blk_put (cs := #[.int .i64 0, .slice none 0 0]) ?_ 1 _ rfl; (with_reducible repeat (first | refine blk_drewN ?_ _ | refine blk_drew ?_ | refine blk_alloc ?_ _)); refine blk_put (cs := #[.int .i64 0, .slice none 0 0]) ?_ 0 _ rfl; (with_reducible repeat (first | refine blk_drewN ?_ _ | refine blk_drew ?_ | refine blk_alloc ?_ _)); exact BK329.out⟩, ⟨bl_⟩⟩
 case round =>
  clear H'
  try clear p2
  try clear c3
  try clear c7
  try clear hcz8_0
  try clear hcz8_1
  try clear hfz8_0
  try clear hfz8_1
  obtain ⟨x5_1, x326000_1, x330000_1, x330001_1, u330001, rfl, HA, HK1, HO_330001, BK325, BK329, HB⟩ := hrel
  cases gk with
  | zero => exact absurd HA.out (by simp [impl_FileBase.l0])
  | succ k1 =>
   have H := HA.out
   clear HA
   simp only [impl_FileBase.l0] at H
   by_cases c9 : 0 ≤ x5_1
   ·rw [if_pos c9] at H
    have c9b0 := eq_true c9
    have c9b1 : decide (0 ≤ x5_1) = true := decide_eq_true c9
    clear c9
    by_cases c10 : x5_1 ≤ (a0.size : Int)
    ·rw [if_pos c10] at H
     have c10b0 := eq_true c10
     have c10b1 : decide (x5_1 ≤ (a0.size : Int)) = true := decide_eq_true c10
     clear c10
     replace H := Option.bind_eq_some_iff.mp H
     obtain ⟨⟨t330, t331, t332⟩, A110, H⟩ := H
     replace H : (if t332 = 0 then (impl_FileBase.j1 k1 a0 x5_1 t330 t331 t332 true x330000_1 x330001_1) else (impl_FileBase.j1 k1 a0 x5_1 t330 t331 t332 (decide (t330 < x330000_1)) x330000_1 x330001_1)) = some (r1, r2, r3) := H
     have A11 := Aside0.mk A110
     clear A110
     have HC12 := Aside0.mk H
     clear H
     go_upto_region 4 with (first | ((with_reducible refine gate_callee (f := 40) rfl ?_); refine goesL_ (some 20) rfl rfl Tryz.func40 (by kernel_rfl) rfl #[.string (a0.extract (x5_1 : Int).toNat a0.size)] rfl ga_ ?_; (with_reducible refine (impl_RecordGet.calls k1 (a0.extract (x5_1 : Int).toNat a0.size) t330 t331 t332 _ A11.out).mono ?_); rintro e w13 ⟨v333, rfl, ho0, hb⟩; refine ⟨_, rfl, ?_⟩; have n0_ := Aside0.mk (Kd.S_below (by (with_reducible repeat (first | apply Kd.S_alloc | apply Kd.S_drewN | apply Kd.S_drew)); exact HO_330001.out) hb); have n1_ := Aside0.mk (Kd.S_lower ho0 (below_size bl_)); have n2_ := Aside0.mk (blk_below (g := gb325) (o := .cells #[.int .i64 x326000_1, .slice none 0 0] 26 (0, 0)) (bk_ BK325.out) hb); have n3_ := Aside0.mk (blk_below (g := gb329) (o := .cells #[.int .i64 x330000_1, u330001] 26 (0, 0)) (bk_ BK329.out) hb); have n4_ := Aside0.mk (below_step bl_ hb); clear HO_330001; clear BK325; clear BK329; clear HB; have HO_330001 := n0_; have HO334 := n1_; have BK325 := n2_; have BK329 := n3_; have HB := n4_; clear n0_ n1_ n2_ n3_ n4_; (try clear hb); (try clear hb2); (try clear hk); (try clear hi); (try clear ho0)))
     (try simp only [Act.put, List.setIfInBounds_toArray, List.set_cons_zero, List.set_cons_succ])
     go_cut [31] (fun v31 wc => ∃ (kq : Nat) (x31_11 : Bool), v31 = .bool x31_11 ∧ Aside0 (impl_FileBase.j1 kq a0 x5_1 t330 t331 t332 x31_11 x330000_1 x330001_1 = some (r1, r2, r3)) ∧ Aside0 (kq ≤ k1) ∧ Aside0 (Kd.S (Kd.slice 9 Kd.string) 55 wc w.heap.size (fun _ => True) v333 t331) ∧ Aside0 (Kd.S k67 67 wc w.heap.size (fun _ => True) u330001 x330001_1) ∧ Aside0 (wc.heap[gb325]? = some (.cells #[.int .i64 x326000_1, (.slice none 0 0)] 26 (0, 0))) ∧ Aside0 (wc.heap[gb329]? = some (.cells #[.int .i64 x330000_1, u330001] 26 (0, 0))) ∧ Aside0 (Below w.heap.size w wc))
     case first =>
      have H := HC12.out
      clear HC12
      by_cases c14 : t332 = 0
      ·rw [if_pos c14] at H
       have c14b0 : (t332 == 0) = true := beq_iff_eq.mpr c14
       have c14b1 : (t332 != 0) = false := bne_eq_false_iff_eq.mpr c14
       clear c14
       (first | rw [c14b0] | (simp only [i64_w, i32_w]; rw [c14b0]) | skip)
       have H' := Aside0.mk H
       clear H
       go_wp2
       go_meet
       case rel => exact ⟨_, (true), rs_, H', ⟨by have := HK1.out; first | omega | exact Nat.le_refl _⟩, ⟨by (with_reducible repeat (first | apply Kd.S_alloc | apply Kd.S_drewN | apply Kd.S_drew)); exact HO334.out⟩, ⟨by (with_reducible repeat (first | apply Kd.S_alloc | apply Kd.S_drewN | apply Kd.S_drew)); exact HO_330001.out⟩, ⟨bk_ BK325.out⟩, ⟨bk_ BK329.out⟩, ⟨bl_⟩⟩
      ·rw [if_neg c14] at H
       have c14b0 : (t332 == 0) = false := beq_eq_false_iff_ne.mpr c14
       have c14b1 : (t332 != 0) = true := bne_iff_ne.mpr c14
       (first | rw [c14b0] | (simp only [i64_w, i32_w]; rw [c14b0]) | skip)
       have H' := Aside0.mk H
       clear H
       have hnb15 := NB329_325.out
       have hnc15 := NB325_329.out
       have hcz16_0 : w13.cell? ⟨gb329, 0, none⟩ = some (.int .i64 x330000_1) := (blk_cell BK329.out 0).trans rfl
       have hcz16_1 : w13.cell? ⟨gb329, 1, none⟩ = some (u330001) := (blk_cell BK329.out 1).trans rfl
       have hfz16_0 := blk_frozen BK329.out 0
       have hfz16_1 := blk_frozen BK329.out 1
       go_wp2
       go_meet
       case rel => exact ⟨_, (decide (t330 < x330000_1)), rs_, H', ⟨by have := HK1.out; first | omega | exact Nat.le_refl _⟩, ⟨by (with_reducible repeat (first | apply Kd.S_alloc | apply Kd.S_drewN | apply Kd.S_drew)); exact HO334.out⟩, ⟨by (with_reducible repeat (first | apply Kd.S_alloc | apply Kd.S_drewN | apply Kd.S_drew)); exact HO_330001.out⟩, ⟨bk_ BK325.out⟩, ⟨bk_ BK329.out⟩, ⟨bl_⟩⟩
     case rest =>
      clear HC12
      try clear c1
      try clear p2
      try clear c3
      try clear c4
      try clear c7
      try clear c9
      try clear c9b0
      try clear c9b1
      try clear c10
      try clear c10b0
      try clear c10b1
      try clear c14
      try clear c14b0
      try clear c14b1
      try clear c15
      try clear hcz16_0
      try clear hcz16_1
      try clear hcz8_0
      try clear hcz8_1
      try clear hfz16_0
      try clear hfz16_1
      try clear hfz8_0
      try clear hfz8_1
      try clear p2
      obtain ⟨kq, x31_11, rfl, HA, HJ11, HO_7, HO_330001, BK325, BK329, HB⟩ := hcut
      cases kq with
      | zero => exact absurd HA.out (by simp [impl_FileBase.j1])
      | succ kj11 =>
       have H := HA.out
       clear HA
       simp only [impl_FileBase.j1] at H
       by_cases c17 : x31_11 = true
       ·subst c17
        have H1 : (some (x330000_1, x330001_1, x5_1)) = some (r1, r2, r3) := by rw [if_pos rfl] at H; exact H
        clear H
        have H := H1
        clear H1
        simp only [Option.some.injEq, Prod.mk.injEq] at H
        obtain ⟨rfl, rfl, rfl⟩ := H
        have hnb18 := NB329_325.out
        have hnc18 := NB325_329.out
        have hcz19_0 : wc.cell? ⟨gb329, 0, none⟩ = some (.int .i64 x330000_1) := (blk_cell BK329.out 0).trans rfl
        have hcz19_1 : wc.cell? ⟨gb329, 1, none⟩ = some (u330001) := (blk_cell BK329.out 1).trans rfl
        have hfz19_0 := blk_frozen BK329.out 0
        have hfz19_1 := blk_frozen BK329.out 1
        have hcz20_0 : wc.cell? ⟨gb325, 0, none⟩ = some (.int .i64 x326000_1) := (blk_cell BK325.out 0).trans rfl
        have hcz20_1 : wc.cell? ⟨gb325, 1, none⟩ = some (.slice none 0 0) := (blk_cell BK325.out 1).trans rfl
        have hfz20_0 := blk_frozen BK325.out 0
        have hfz20_1 := blk_frozen BK325.out 1
        obtain ⟨Ao21, co21, eo21⟩ := Kd.S_slice HO_330001.out
        subst eo21
        go_wp2
        refine bodyPost_ret (results_ct rfl _ _ gb325 26 #[.int .i64 x330000_1, .slice Ao21 x330001_1.length co21] (0, 0) _ rfl (by (with_reducible repeat (first | refine blk_drewN ?_ _ | refine blk_drew ?_ | refine blk_alloc ?_ _)); refine blk_put (cs := #[.int .i64 x330000_1, .slice none 0 0]) ?_ 1 _ rfl; (with_reducible repeat (first | refine blk_drewN ?_ _ | refine blk_drew ?_ | refine blk_alloc ?_ _)); refine blk_put (cs := #[.int .i64 x326000_1, .slice none 0 0]) ?_ 0 _ rfl; (with_reducible repeat (first | refine blk_drewN ?_ _ | refine blk_drew ?_ | refine blk_alloc ?_ _)); exact BK325.out) Tryz.underlying26 rfl (by kernel_rfl)) rfl ?_
        exact ⟨_, by first | rfl | (simp [errW_none, errW_some] <;> rfl) | (simp [*, errW_none, errW_some] <;> rfl), by (with_reducible repeat (first | apply Kd.S_alloc | apply Kd.S_drewN | apply Kd.S_drew)); exact Kd.S_mono (Kd.S_far (p := ⟨gb325, 1, none⟩) (Kd.S_far (p := ⟨gb325, 0, none⟩) (Kd.S_types HO_330001.out BK325.out (by decide)) (fun _ hk => hk.2) (.int .i64 x330000_1)) (fun _ hk => hk.2) (.slice Ao21 x330001_1.length co21)) (fun _ hk => trivial), bl_⟩
       ·replace c17 := Bool.eq_false_iff.mpr c17
        subst c17
        have H1 : ((impl_BaseTick.f kj11 x330000_1 x330001_1 (wrap64 (t330 - x330000_1))).bind fun bt335 => (impl_FileBase.l1 kj11 a0 x5_1 t332 t331 (t331.length : Int) 0 x330000_1 x330001_1 bt335.1 bt335.2)) = some (r1, r2, r3) := by rw [if_neg (show ¬ (false = true) by decide)] at H; exact H
        clear H
        have H := H1
        clear H1
        replace H := Option.bind_eq_some_iff.mp H
        obtain ⟨⟨t335, t336⟩, A220, H⟩ := H
        replace H : (impl_FileBase.l1 kj11 a0 x5_1 t332 t331 (t331.length : Int) 0 x330000_1 x330001_1 t335 t336) = some (r1, r2, r3) := H
        have A22 := Aside0.mk A220
        clear A220
        have H' := Aside0.mk H
        clear H
        have hnb23 := NB329_325.out
        have hnc23 := NB325_329.out
        have hcz24_0 : wc.cell? ⟨gb329, 0, none⟩ = some (.int .i64 x330000_1) := (blk_cell BK329.out 0).trans rfl
        have hcz24_1 : wc.cell? ⟨gb329, 1, none⟩ = some (u330001) := (blk_cell BK329.out 1).trans rfl
        have hfz24_0 := blk_frozen BK329.out 0
        have hfz24_1 := blk_frozen BK329.out 1
        obtain ⟨Ao25, co25, eo25⟩ := Kd.S_slice HO_330001.out
        subst eo25
        go_wp2_with (first | ((with_reducible refine gate_callee (f := 32) rfl ?_); refine goesL_ (some 39) rfl rfl Tryz.func32 (by kernel_rfl) rfl #[.agg #[.int .i64 x330000_1, .slice Ao25 x330001_1.length co25], .int .i64 (wrap64 (t330 - x330000_1))] rfl ga_ ?_; (with_reducible refine (impl_BaseTick.calls kj11 x330000_1 _ _ x330001_1 (wrap64 (t330 - x330000_1)) t335 t336 _ ?side1 ?side2 A22.out).mono ?_); (case side1 => repeat (first | exact (Kd.S_reads' HO_330001.out).2.2 | (with_reducible refine Kd.C_alloc ?_ _) | (with_reducible refine Kd.C_drewN ?_ _) | (with_reducible refine Kd.C_drew ?_))); (case side2 => exact (Kd.S_reads' HO_330001.out).2.1); rintro e w26 ⟨v337, rfl, ho0, hb⟩; refine ⟨_, rfl, ?_⟩; have n0_ := Aside0.mk (Kd.S_below (by (with_reducible repeat (first | apply Kd.S_alloc | apply Kd.S_drewN | apply Kd.S_drew)); exact HO_7.out) hb); have n1_ := Aside0.mk (Kd.S_elder' (by (with_reducible repeat (first | apply Kd.S_alloc | apply Kd.S_drewN | apply Kd.S_drew)); exact HO_330001.out) (Kd.S_base ho0) hb); have n2_ := Aside0.mk (Kd.S_lower (Kd.S_new' ho0 (Kd.S_lt (by (with_reducible repeat (first | apply Kd.S_alloc | apply Kd.S_drewN | apply Kd.S_drew)); exact HO_330001.out))) (below_size bl_)); have n3_ := Aside0.mk (blk_below (g := gb325) (o := .cells #[.int .i64 x326000_1, .slice none 0 0] 26 (0, 0)) (bk_ BK325.out) hb); have n4_ := Aside0.mk (blk_below (g := gb329) (o := .cells #[.int .i64 x330000_1, .slice Ao25 x330001_1.length co25] 26 (0, 0)) (bk_ BK329.out) hb); have n5_ := Aside0.mk (below_step bl_ hb); clear HO_7; clear HO_330001; clear BK325; clear BK329; clear HB; have HO_7 := n0_; have HO_330001 := n1_; have HO338 := n2_; have BK325 := n3_; have BK329 := n4_; have HB := n5_; clear n0_ n1_ n2_ n3_ n4_ n5_; (try clear hb); (try clear hb2); (try clear hk); (try clear hi); (try clear ho0)) | ((with_reducible refine gate_dst (N := 9) rfl ?_); refine box_event ?hg (N := 9) ?hd (cs := #[.int .i64 0, .slice none 0 0]) (t := 26) ?hr ?_; (case hd => rfl); (case hg => rfl); (case hr => first | (go_simp; done) | (go_simp; rfl)); intro gb339 hg w27 hbox hb; have n0_ := Aside0.mk (Kd.S_below (by (with_reducible repeat (first | apply Kd.S_alloc | apply Kd.S_drewN | apply Kd.S_drew)); exact HO_7.out) hb); have n1_ := Aside0.mk (Kd.S_below (by (with_reducible repeat (first | apply Kd.S_alloc | apply Kd.S_drewN | apply Kd.S_drew)); exact HO_330001.out) hb); have n2_ := Aside0.mk (Kd.S_below (by (with_reducible repeat (first | apply Kd.S_alloc | apply Kd.S_drewN | apply Kd.S_drew)); exact HO338.out) hb); have n3_ := Aside0.mk (blk_below (g := gb325) (o := .cells #[.int .i64 x326000_1, .slice none 0 0] 26 (0, 0)) (bk_ BK325.out) hb); have n4_ := Aside0.mk (blk_below (g := gb329) (o := .cells #[.int .i64 x330000_1, .slice Ao25 x330001_1.length co25] 26 (0, 0)) (bk_ BK329.out) hb); have n5_ := Aside0.mk (below_step bl_ hb); have n6_ := Aside0.mk (hbox); have n7_ := Aside0.mk ((by rw [hg]; exact (below_size bl_) : w.heap.size ≤ gb339)); have n8_ := Aside0.mk ((by rw [hg]; exact (below_size bl_) : w.heap.size ≤ gb339)); have n9_ := Aside0.mk ((by rw [hg]; exact Nat.ne_of_lt (blk_lt (g := gb325) (o := .cells #[.int .i64 x326000_1, .slice none 0 0] 26 (0, 0)) (bk_ BK325.out)) : gb325 ≠ gb339)); have n10_ := Aside0.mk ((by rw [hg]; exact Nat.ne_of_gt (blk_lt (g := gb325) (o := .cells #[.int .i64 x326000_1, .slice none 0 0] 26 (0, 0)) (bk_ BK325.out)) : gb339 ≠ gb325)); have n11_ := Aside0.mk ((by rw [hg]; exact Nat.ne_of_lt (blk_lt (g := gb329) (o := .cells #[.int .i64 x330000_1, .slice Ao25 x330001_1.length co25] 26 (0, 0)) (bk_ BK329.out)) : gb329 ≠ gb339)); have n12_ := Aside0.mk ((by rw [hg]; exact Nat.ne_of_gt (blk_lt (g := gb329) (o := .cells #[.int .i64 x330000_1, .slice Ao25 x330001_1.length co25] 26 (0, 0)) (bk_ BK329.out)) : gb339 ≠ gb329)); clear HO_7; clear HO_330001; clear HO338; clear BK325; clear BK329; clear HB; have HO_7 := n0_; have HO_330001 := n1_; have HO338 := n2_; have BK325 := n3_; have BK329 := n4_; have HB := n5_; have BK339 := n6_; have GW339 := n7_; have GE339 := n8_; have NB325_339 := n9_; have NB339_325 := n10_; have NB329_339 := n11_; have NB339_329 := n12_; clear n0_ n1_ n2_ n3_ n4_ n5_ n6_ n7_ n8_ n9_ n10_ n11_ n12_; clear hb hbox hg; have hnb28 := NB339_325.out; have hnc28 := NB325_339.out; have hnb29 := NB339_329.out; have hnc29 := NB329_339.out; have hcz30_0 : w27.cell? ⟨gb339, 0, none⟩ = some (.int .i64 0) := (blk_cell BK339.out 0).trans rfl; have hcz30_1 : w27.cell? ⟨gb339, 1, none⟩ = some (.slice none 0 0) := (blk_cell BK339.out 1).trans rfl; have hfz30_0 := blk_frozen BK339.out 0; have hfz30_1 := blk_frozen BK339.out 1; obtain ⟨Ao31, co31, eo31⟩ := Kd.S_slice HO338.out; subst eo31; obtain ⟨Ao32, co32, eo32⟩ := Kd.S_slice HO_7.out; subst eo32))
        go_loopg [42] kj11 (fun kq v42 w' => ∃ (x42_3 : Int) (x326000_3 : Int) (x340000_3 : Int) (x340001_3 : List (S67)) (u340001 : Value), v42 = .int .i64 x42_3 ∧ Aside0 (impl_FileBase.l1 kq a0 x5_1 t332 t331 (t331.length : Int) x42_3 x330000_1 x330001_1 x340000_3 x340001_3 = some (r1, r2, r3)) ∧ Aside0 (kq ≤ kj11) ∧ Aside0 (Kd.S (Kd.slice 9 Kd.string) 55 w' w.heap.size (fun _ => True) (.slice Ao32 t331.length co32) t331) ∧ Aside0 (Kd.S k67 67 w' w.heap.size (fun k_ => some k_ ≠ (u340001 : Value).ownBlock) (.slice Ao25 x330001_1.length co25) x330001_1) ∧ Aside0 (Kd.S k67 67 w' w.heap.size (fun k_ => some k_ ≠ ((.slice Ao25 x330001_1.length co25) : Value).ownBlock) u340001 x340001_3) ∧ Aside0 (w'.heap[gb325]? = some (.cells #[.int .i64 x326000_3, (.slice none 0 0)] 26 (0, 0))) ∧ Aside0 (w'.heap[gb329]? = some (.cells #[.int .i64 x330000_1, (.slice Ao25 x330001_1.length co25)] 26 (0, 0))) ∧ Aside0 (w'.heap[gb339]? = some (.cells #[.int .i64 x340000_3, u340001] 26 (0, 0))) ∧ Aside0 (Below w.heap.size w w'))
        case atStart => exact ⟨(0), (x326000_1), (t335), (t336), (.slice Ao31 t336.length co31), rs_, H', ⟨Nat.le_refl _⟩, ⟨by (with_reducible repeat (first | apply Kd.S_alloc | apply Kd.S_drewN | apply Kd.S_drew)); exact Kd.S_mono (Kd.S_far (p := ⟨gb339, 1, none⟩) (Kd.S_far (p := ⟨gb339, 0, none⟩) (Kd.S_types HO_7.out BK339.out (by decide)) (fun _ hk => hk.2) (.int .i64 t335)) (fun _ hk => hk.2) (.slice Ao31 t336.length co31)) (fun _ hk => trivial)⟩, ⟨by (with_reducible repeat (first | apply Kd.S_alloc | apply Kd.S_drewN | apply Kd.S_drew)); exact Kd.S_mono (Kd.S_far (p := ⟨gb339, 1, none⟩) (Kd.S_far (p := ⟨gb339, 0, none⟩) (Kd.S_types HO_330001.out BK339.out (by decide)) (fun _ hk => hk.2) (.int .i64 t335)) (fun _ hk => hk.2) (.slice Ao31 t336.length co31)) (fun _ hk => hk.1.2)⟩, ⟨by (with_reducible repeat (first | apply Kd.S_alloc | apply Kd.S_drewN | apply Kd.S_drew)); exact Kd.S_mono (Kd.S_far (p := ⟨gb339, 1, none⟩) (Kd.S_far (p := ⟨gb339, 0, none⟩) (Kd.S_types HO338.out BK339.out (by decide)) (fun _ hk => hk.2) (.int .i64 t335)) (fun _ hk => hk.2) (.slice Ao31 t336.length co31)) (fun _ hk => hk.1.2)⟩, ⟨bf_ BK325.out⟩, ⟨bf_ BK329.out⟩, ⟨by (with_reducible repeat (first | refine blk_drewN ?_ _ | refine blk_drew ?_ | refine blk_alloc ?_ _)); refine blk_put (cs := #[.int .i64 t335, .slice none 0 0]) ?_ 1 _ rfl; (with_reducible repeat (first | refine blk_drewN ?_ _ | refine blk_drew ?_ | refine blk_alloc ?_ _)); refine blk_put (cs := #[.int .i64 0, .slice none 0 0]) ?_ 0 _ rfl; (with_reducible repeat (first | refine blk_drewN ?_ _ | refine blk_drew ?_ | refine blk_alloc ?_ _)); exact BK339.out⟩, ⟨bl_⟩⟩
        case round =>
         clear H'
         try clear c1
         try clear c2
         try clear p2
         try clear c3
         try clear c4
         try clear p6
         try clear c7
         try clear c9
         try clear c9b0
         try clear c9b1
         try clear c10
         try clear c10b0
         try clear c10b1
         try clear c14
         try clear c14b0
         try clear c14b1
         try clear c15
         try clear c17
         try clear c18
         try clear c23
         try clear c28
         try clear c29
         try clear c30
         try clear c32
         try clear hcz16_0
         try clear hcz16_1
         try clear hcz19_0
         try clear hcz19_1
         try clear hcz20_0
         try clear hcz20_1
         try clear hcz24_0
         try clear hcz24_1
         try clear hcz30_0
         try clear hcz30_1
         try clear hcz8_0
         try clear hcz8_1
         try clear hfz16_0
         try clear hfz16_1
         try clear hfz19_0
         try clear hfz19_1
         try clear hfz20_0
         try clear hfz20_1
         try clear hfz24_0
         try clear hfz24_1
         try clear hfz30_0
         try clear hfz30_1
         try clear hfz8_0
         try clear hfz8_1
         try clear p2
         obtain ⟨x42_3, x326000_3, x340000_3, x340001_3, u340001, rfl, HA, HK3, HO_40, HO_330001, HO_340001, BK325, BK329, BK339, HB⟩ := hrel
         cases gk with
         | zero => exact absurd HA.out (by simp [impl_FileBase.l1])
         | succ k3 =>
          have H := HA.out
          clear HA
          simp only [impl_FileBase.l1] at H
          by_cases c33 : x42_3 < (t331.length : Int)
          ·rw [if_pos c33] at H
           have c33b0 : decide (x42_3 < (t331.length : Int)) = true := decide_eq_true c33
           clear c33
           by_cases c34 : 0 ≤ x42_3
           ·rw [if_pos c34] at H
            have c34b0 : decide (0 ≤ x42_3) = true := decide_eq_true c34
            clear c34
            by_cases c35 : x42_3 < (t331.length : Int)
            ·rw [if_pos c35] at H
             have c35b0 : decide (x42_3 < (t331.length : Int)) = true := decide_eq_true c35
             clear c35
             replace H := Option.bind_eq_some_iff.mp H
             obtain ⟨⟨t341, t342, t345, t346, t347, t348, t351⟩, A360, H⟩ := H
             replace H : (if t345 = 1 then (some (x330000_1, x330001_1, x5_1)) else (impl_FileBase.l1 k3 a0 x5_1 t332 t331 (t331.length : Int) (wrap64 (x42_3 + 1)) x330000_1 x330001_1 t341 t342)) = some (r1, r2, r3) := H
             have A36 := Aside0.mk A360
             clear A360
             by_cases c37 : t345 = 1
             ·rw [if_pos c37] at H
              have c37b0 : (t345 == 1) = true := beq_iff_eq.mpr c37
              have c37b1 : (t345 != 1) = false := bne_eq_false_iff_eq.mpr c37
              clear c37
              simp only [Option.some.injEq, Prod.mk.injEq] at H
              obtain ⟨rfl, rfl, rfl⟩ := H
              have p340 : 0 ≤ (x42_3 : Int) := od_
              have q340 : x42_3 < (t331.length : Int) := od_
              obtain ⟨ad340, A340_0, c340_0, e340, hx340_0, hl340_0, hi340_0⟩ := at_L2 (Kd.S_reads' HO_40.out).2.2 x42_3 p340 q340
              cases e340
              obtain ⟨ce340, hce340, hMe340, hcc340⟩ := Kd.S_get HO_40.out [] x42_3 p340 (by first | exact q340 | exact od_ | (have e_ := (Kd.S_reads' HO_40.out).1; omega))
              obtain ⟨ve340_0, rfl, ge340_0⟩ := hMe340
              have hv340_0 := hcc340 0 _ rfl
              rw [Nat.add_zero, show ((Kd.slice 9 Kd.string)).sz = 1 from rfl, Nat.mul_one] at hv340_0
              replace hv340_0 := Option.some.inj (hv340_0.symm.trans hx340_0)
              rw [hv340_0] at ge340_0
              have HL340_0 := Aside0.mk (show Kd.R Kd.string 9 _ _ _ _ (rd_L2 t331 x42_3) from ge340_0)
              clear hv340_0 ge340_0
              clear hcc340 hce340
              have HR340_0 := Aside0.mk hi340_0
              have HC340_0 := Aside0.mk hl340_0
              clear hi340_0 hl340_0
              replace p340 := eq_true p340
              replace q340 := eq_true q340
              have hnb38 := NB339_325.out
              have hnc38 := NB325_339.out
              have hnb39 := NB339_329.out
              have hnc39 := NB329_339.out
              have hcz40_0 : wr.cell? ⟨gb339, 0, none⟩ = some (.int .i64 x340000_3) := (blk_cell BK339.out 0).trans rfl
              have hcz40_1 : wr.cell? ⟨gb339, 1, none⟩ = some (u340001) := (blk_cell BK339.out 1).trans rfl
              have hfz40_0 := blk_frozen BK339.out 0
              have hfz40_1 := blk_frozen BK339.out 1
              obtain ⟨Ao41, co41, eo41⟩ := Kd.S_slice HO_340001.out
              subst eo41
              go_wp2_with (first | ((with_reducible refine gate_callee (f := 41) rfl ?_); refine goesL_ (some 49) rfl rfl Tryz.func41 (by kernel_rfl) rfl #[.agg #[.int .i64 x340000_3, .slice Ao41 x340001_3.length co41], .slice A340_0 (rd_L2 t331 x42_3).length c340_0] rfl ga_ ?_; (with_reducible refine (impl_Do.calls x340000_3 _ _ x340001_3 _ _ (rd_L2 t331 x42_3) t341 t342 t345 t346 t347 t348 t351 _ ?side1 ?side2 ?side3 ?side4 A36.out).mono ?_); (case side1 => repeat (first | exact (Kd.S_reads' HO_340001.out).2.2 | (with_reducible refine Kd.C_alloc ?_ _) | (with_reducible refine Kd.C_drewN ?_ _) | (with_reducible refine Kd.C_drew ?_))); (case side2 => exact (Kd.S_reads' HO_340001.out).2.1); (case side3 => repeat (first | exact (by repeat (first | (with_reducible exact HR340_0.out) | (with_reducible refine Kd.C_alloc ?_ _) | (with_reducible refine Kd.C_drewN ?_ _) | (with_reducible refine Kd.C_drew ?_) | exact HR340_0.out)) | (with_reducible refine Kd.C_alloc ?_ _) | (with_reducible refine Kd.C_drewN ?_ _) | (with_reducible refine Kd.C_drew ?_))); (case side4 => exact HC340_0.out); rintro e w42 ⟨v343, v349, v352, rfl, ho0, ho1, ho2, hb⟩; refine ⟨_, rfl, ?_⟩; have n0_ := Aside0.mk (Kd.S_elder' (by (with_reducible repeat (first | apply Kd.S_alloc | apply Kd.S_drewN | apply Kd.S_drew)); exact HO_40.out) (Kd.R_base ho1) hb); have n1_ := Aside0.mk (Kd.S_mono (Kd.S_told (Kd.S_told (Kd.S_old (by (with_reducible repeat (first | apply Kd.S_alloc | apply Kd.S_drewN | apply Kd.S_drew)); exact HO_330001.out) hb) (Kd.S_base ho0)) (Kd.R_base ho1)) (fun _ h_ => h_.1)); have n2_ := Aside0.mk (Kd.S_mono (Kd.S_told (Kd.S_told (Kd.S_old (by (with_reducible repeat (first | apply Kd.S_alloc | apply Kd.S_drewN | apply Kd.S_drew)); exact HO_340001.out) hb) (Kd.S_base ho0)) (Kd.R_base ho1)) (fun _ h_ => h_.1)); have n3_ := Aside0.mk (Kd.R_elder' (by (with_reducible repeat (first | apply Kd.R_alloc | apply Kd.R_drewN | apply Kd.R_drew)); exact HL340_0.out) (Kd.R_base ho1) hb); have n4_ := Aside0.mk (Kd.S_lower (Kd.S_new' (Kd.S_new' (Kd.S_new' ho0 (Kd.S_lt (by (with_reducible repeat (first | apply Kd.S_alloc | apply Kd.S_drewN | apply Kd.S_drew)); exact HO_330001.out))) (Kd.S_lt (by (with_reducible repeat (first | apply Kd.S_alloc | apply Kd.S_drewN | apply Kd.S_drew)); exact HO_340001.out))) (Kd.R_lt (by (with_reducible repeat (first | apply Kd.R_alloc | apply Kd.R_drewN | apply Kd.R_drew)); exact HL340_0.out))) (below_size bl_)); have n5_ := Aside0.mk (Kd.R_lower (Kd.R_new' ho1 (Kd.R_lt (by (with_reducible repeat (first | apply Kd.R_alloc | apply Kd.R_drewN | apply Kd.R_drew)); exact HL340_0.out))) (below_size bl_)); have n6_ := Aside0.mk (Kd.R_lower (Kd.R_new' ho2 (Kd.R_lt (by (with_reducible repeat (first | apply Kd.R_alloc | apply Kd.R_drewN | apply Kd.R_drew)); exact HL340_0.out))) (below_size bl_)); have n7_ := Aside0.mk (blk_below (g := gb325) (o := .cells #[.int .i64 x326000_3, .slice none 0 0] 26 (0, 0)) (bk_ BK325.out) hb); have n8_ := Aside0.mk (blk_below (g := gb329) (o := .cells #[.int .i64 x330000_1, .slice Ao25 x330001_1.length co25] 26 (0, 0)) (bk_ BK329.out) hb); have n9_ := Aside0.mk (blk_below (g := gb339) (o := .cells #[.int .i64 x340000_3, .slice Ao41 x340001_3.length co41] 26 (0, 0)) (bk_ BK339.out) hb); have n10_ := Aside0.mk (Kd.C_below (by repeat (first | (with_reducible exact HR340_0.out) | (with_reducible refine Kd.C_alloc ?_ _) | (with_reducible refine Kd.C_drewN ?_ _) | (with_reducible refine Kd.C_drew ?_) | exact HR340_0.out)) hb); have n11_ := Aside0.mk (below_step bl_ hb); clear HO_40; clear HO_330001; clear HO_340001; clear HL340_0; clear BK325; clear BK329; clear BK339; clear HR340_0; clear HB; have HO_40 := n0_; have HO_330001 := n1_; have HO_340001 := n2_; have HL340_0 := n3_; have HO344 := n4_; have HO350 := n5_; have HO353 := n6_; have BK325 := n7_; have BK329 := n8_; have BK339 := n9_; have HR340_0 := n10_; have HB := n11_; clear n0_ n1_ n2_ n3_ n4_ n5_ n6_ n7_ n8_ n9_ n10_ n11_; (try clear hb); (try clear hb2); (try clear hk); (try clear hi); (try clear ho0); (try clear ho1); (try clear ho2)) | ((with_reducible refine gate_dst (N := 12) rfl ?_); refine box_event ?hg (N := 12) ?hd (cs := #[.int .i64 0, .slice none 0 0]) (t := 26) ?hr ?_; (case hd => rfl); (case hg => rfl); (case hr => first | (go_simp; done) | (go_simp; rfl)); intro gb354 hg w43 hbox hb; have n0_ := Aside0.mk (Kd.S_below (by (with_reducible repeat (first | apply Kd.S_alloc | apply Kd.S_drewN | apply Kd.S_drew)); exact HO_40.out) hb); have n1_ := Aside0.mk (Kd.S_below (by (with_reducible repeat (first | apply Kd.S_alloc | apply Kd.S_drewN | apply Kd.S_drew)); exact HO_330001.out) hb); have n2_ := Aside0.mk (Kd.S_below (by (with_reducible repeat (first | apply Kd.S_alloc | apply Kd.S_drewN | apply Kd.S_drew)); exact HO_340001.out) hb); have n3_ := Aside0.mk (Kd.R_below (by (with_reducible repeat (first | apply Kd.R_alloc | apply Kd.R_drewN | apply Kd.R_drew)); exact HL340_0.out) hb); have n4_ := Aside0.mk (Kd.S_below (by (with_reducible repeat (first | apply Kd.S_alloc | apply Kd.S_drewN | apply Kd.S_drew)); exact HO344.out) hb); have n5_ := Aside0.mk (Kd.R_below (by (with_reducible repeat (first | apply Kd.R_alloc | apply Kd.R_drewN | apply Kd.R_drew)); exact HO350.out) hb); have n6_ := Aside0.mk (Kd.R_below (by (with_reducible repeat (first | apply Kd.R_alloc | apply Kd.R_drewN | apply Kd.R_drew)); exact HO353.out) hb); have n7_ := Aside0.mk (blk_below (g := gb325) (o := .cells #[.int .i64 x326000_3, .slice none 0 0] 26 (0, 0)) (bk_ BK325.out) hb); have n8_ := Aside0.mk (blk_below (g := gb329) (o := .cells #[.int .i64 x330000_1, .slice Ao25 x330001_1.length co25] 26 (0, 0)) (bk_ BK329.out) hb); have n9_ := Aside0.mk (blk_below (g := gb339) (o := .cells #[.int .i64 x340000_3, .slice Ao41 x340001_3.length co41] 26 (0, 0)) (bk_ BK339.out) hb); have n10_ := Aside0.mk (Kd.C_below (by repeat (first | (with_reducible exact HR340_0.out) | (with_reducible refine Kd.C_alloc ?_ _) | (with_reducible refine Kd.C_drewN ?_ _) | (with_reducible refine Kd.C_drew ?_) | exact HR340_0.out)) hb); have n11_ := Aside0.mk (below_step bl_ hb); have n12_ := Aside0.mk (hbox); have n13_ := Aside0.mk ((by rw [hg]; exact (below_size bl_) : w.heap.size ≤ gb354)); have n14_ := Aside0.mk ((by rw [hg]; exact (below_size bl_) : w.heap.size ≤ gb354)); have n15_ := Aside0.mk ((by rw [hg]; exact Nat.ne_of_lt (blk_lt (g := gb325) (o := .cells #[.int .i64 x326000_3, .slice none 0 0] 26 (0, 0)) (bk_ BK325.out)) : gb325 ≠ gb354)); have n16_ := Aside0.mk ((by rw [hg]; exact Nat.ne_of_gt (blk_lt (g := gb325) (o := .cells #[.int .i64 x326000_3, .slice none 0 0] 26 (0, 0)) (bk_ BK325.out)) : gb354 ≠ gb325)); have n17_ := Aside0.mk ((by rw [hg]; exact Nat.ne_of_lt (blk_lt (g := gb329) (o := .cells #[.int .i64 x330000_1, .slice Ao25 x330001_1.length co25] 26 (0, 0)) (bk_ BK329.out)) : gb329 ≠ gb354)); have n18_ := Aside0.mk ((by rw [hg]; exact Nat.ne_of_gt (blk_lt (g := gb329) (o := .cells #[.int .i64 x330000_1, .slice Ao25 x330001_1.length co25] 26 (0, 0)) (bk_ BK329.out)) : gb354 ≠ gb329)); have n19_ := Aside0.mk ((by rw [hg]; exact Nat.ne_of_lt (blk_lt (g := gb339) (o := .cells #[.int .i64 x340000_3, .slice Ao41 x340001_3.length co41] 26 (0, 0)) (bk_ BK339.out)) : gb339 ≠ gb354)); have n20_ := Aside0.mk ((by rw [hg]; exact Nat.ne_of_gt (blk_lt (g := gb339) (o := .cells #[.int .i64 x340000_3, .slice Ao41 x340001_3.length co41] 26 (0, 0)) (bk_ BK339.out)) : gb354 ≠ gb339)); clear HO_40; clear HO_330001; clear HO_340001; clear HL340_0; clear HO344; clear HO350; clear HO353; clear BK325; clear BK329; clear BK339; clear HR340_0; clear HB; have HO_40 := n0_; have HO_330001 := n1_; have HO_340001 := n2_; have HL340_0 := n3_; have HO344 := n4_; have HO350 := n5_; have HO353 := n6_; have BK325 := n7_; have BK329 := n8_; have BK339 := n9_; have HR340_0 := n10_; have HB := n11_; have BK354 := n12_; have GW354 := n13_; have GE354 := n14_; have NB325_354 := n15_; have NB354_325 := n16_; have NB329_354 := n17_; have NB354_329 := n18_; have NB339_354 := n19_; have NB354_339 := n20_; clear n0_ n1_ n2_ n3_ n4_ n5_ n6_ n7_ n8_ n9_ n10_ n11_ n12_ n13_ n14_ n15_ n16_ n17_ n18_ n19_ n20_; clear hb hbox hg) | ((with_reducible refine gate_dst (N := 13) rfl ?_); refine box_event ?hg (N := 13) ?hd (cs := #[.int .i64 0, .int .i64 0, .string (⟨#[]⟩ : ByteArray), .slice none 0 0, .slice none 0 0]) (t := 83) ?hr ?_; (case hd => rfl); (case hg => rfl); (case hr => first | (go_simp; done) | (go_simp; rfl)); intro gb355 hg w44 hbox hb; have n0_ := Aside0.mk (Kd.S_below (by (with_reducible repeat (first | apply Kd.S_alloc | apply Kd.S_drewN | apply Kd.S_drew)); exact HO_40.out) hb); have n1_ := Aside0.mk (Kd.S_below (by (with_reducible repeat (first | apply Kd.S_alloc | apply Kd.S_drewN | apply Kd.S_drew)); exact HO_330001.out) hb); have n2_ := Aside0.mk (Kd.S_below (by (with_reducible repeat (first | apply Kd.S_alloc | apply Kd.S_drewN | apply Kd.S_drew)); exact HO_340001.out) hb); have n3_ := Aside0.mk (Kd.R_below (by (with_reducible repeat (first | apply Kd.R_alloc | apply Kd.R_drewN | apply Kd.R_drew)); exact HL340_0.out) hb); have n4_ := Aside0.mk (Kd.S_below (by (with_reducible repeat (first | apply Kd.S_alloc | apply Kd.S_drewN | apply Kd.S_drew)); exact HO344.out) hb); have n5_ := Aside0.mk (Kd.R_below (by (with_reducible repeat (first | apply Kd.R_alloc | apply Kd.R_drewN | apply Kd.R_drew)); exact HO350.out) hb); have n6_ := Aside0.mk (Kd.R_below (Kd.R_elderB (by (with_reducible repeat (first | apply Kd.R_alloc | apply Kd.R_drewN | apply Kd.R_drew)); exact HO353.out) gb355 (Nat.le_of_eq hg.symm)) hb); have n7_ := Aside0.mk (blk_below (g := gb325) (o := .cells #[.int .i64 x326000_3, .slice none 0 0] 26 (0, 0)) (bk_ BK325.out) hb); have n8_ := Aside0.mk (blk_below (g := gb329) (o := .cells #[.int .i64 x330000_1, .slice Ao25 x330001_1.length co25] 26 (0, 0)) (bk_ BK329.out) hb); have n9_ := Aside0.mk (blk_below (g := gb339) (o := .cells #[.int .i64 x340000_3, .slice Ao41 x340001_3.length co41] 26 (0, 0)) (bk_ BK339.out) hb); have n10_ := Aside0.mk (Kd.C_below (by repeat (first | (with_reducible exact HR340_0.out) | (with_reducible refine Kd.C_alloc ?_ _) | (with_reducible refine Kd.C_drewN ?_ _) | (with_reducible refine Kd.C_drew ?_) | exact HR340_0.out)) hb); have n11_ := Aside0.mk (blk_below (g := gb354) (o := .cells #[.int .i64 0, .slice none 0 0] 26 (0, 0)) (bk_ BK354.out) hb); have n12_ := Aside0.mk (below_step bl_ hb); have n13_ := Aside0.mk (hbox); have n14_ := Aside0.mk ((by rw [hg]; exact (below_size bl_) : w.heap.size ≤ gb355)); have n15_ := Aside0.mk ((by rw [hg]; exact (below_size bl_) : w.heap.size ≤ gb355)); have n16_ := Aside0.mk ((by rw [hg]; exact Nat.ne_of_lt (blk_lt (g := gb325) (o := .cells #[.int .i64 x326000_3, .slice none 0 0] 26 (0, 0)) (bk_ BK325.out)) : gb325 ≠ gb355)); have n17_ := Aside0.mk ((by rw [hg]; exact Nat.ne_of_gt (blk_lt (g := gb325) (o := .cells #[.int .i64 x326000_3, .slice none 0 0] 26 (0, 0)) (bk_ BK325.out)) : gb355 ≠ gb325)); have n18_ := Aside0.mk ((by rw [hg]; exact Nat.ne_of_lt (blk_lt (g := gb329) (o := .cells #[.int .i64 x330000_1, .slice Ao25 x330001_1.length co25] 26 (0, 0)) (bk_ BK329.out)) : gb329 ≠ gb355)); have n19_ := Aside0.mk ((by rw [hg]; exact Nat.ne_of_gt (blk_lt (g := gb329) (o := .cells #[.int .i64 x330000_1, .slice Ao25 x330001_1.length co25] 26 (0, 0)) (bk_ BK329.out)) : gb355 ≠ gb329)); have n20_ := Aside0.mk ((by rw [hg]; exact Nat.ne_of_lt (blk_lt (g := gb339) (o := .cells #[.int .i64 x340000_3, .slice Ao41 x340001_3.length co41] 26 (0, 0)) (bk_ BK339.out)) : gb339 ≠ gb355)); have n21_ := Aside0.mk ((by rw [hg]; exact Nat.ne_of_gt (blk_lt (g := gb339) (o := .cells #[.int .i64 x340000_3, .slice Ao41 x340001_3.length co41] 26 (0, 0)) (bk_ BK339.out)) : gb355 ≠ gb339)); have n22_ := Aside0.mk ((by rw [hg]; exact Nat.ne_of_lt (blk_lt (g := gb354) (o := .cells #[.int .i64 0, .slice none 0 0] 26 (0, 0)) (bk_ BK354.out)) : gb354 ≠ gb355)); have n23_ := Aside0.mk ((by rw [hg]; exact Nat.ne_of_gt (blk_lt (g := gb354) (o := .cells #[.int .i64 0, .slice none 0 0] 26 (0, 0)) (bk_ BK354.out)) : gb355 ≠ gb354)); clear HO_40; clear HO_330001; clear HO_340001; clear HL340_0; clear HO344; clear HO350; clear HO353; clear BK325; clear BK329; clear BK339; clear HR340_0; clear BK354; clear HB; have HO_40 := n0_; have HO_330001 := n1_; have HO_340001 := n2_; have HL340_0 := n3_; have HO344 := n4_; have HO350 := n5_; have HO353 := n6_; have BK325 := n7_; have BK329 := n8_; have BK339 := n9_; have HR340_0 := n10_; have BK354 := n11_; have HB := n12_; have BK355 := n13_; have GW355 := n14_; have GE355 := n15_; have NB325_355 := n16_; have NB355_325 := n17_; have NB329_355 := n18_; have NB355_329 := n19_; have NB339_355 := n20_; have NB355_339 := n21_; have NB354_355 := n22_; have NB355_354 := n23_; clear n0_ n1_ n2_ n3_ n4_ n5_ n6_ n7_ n8_ n9_ n10_ n11_ n12_ n13_ n14_ n15_ n16_ n17_ n18_ n19_ n20_ n21_ n22_ n23_; clear hb hbox hg; have hnb45 := NB354_325.out; have hnc45 := NB325_354.out; have hnb46 := NB354_329.out; have hnc46 := NB329_354.out; have hnb47 := NB354_339.out; have hnc47 := NB339_354.out; have hnb48 := NB354_355.out; have hnc48 := NB355_354.out; have hcz49_0 : w44.cell? ⟨gb354, 0, none⟩ = some (.int .i64 0) := (blk_cell BK354.out 0).trans rfl; have hcz49_1 : w44.cell? ⟨gb354, 1, none⟩ = some (.slice none 0 0) := (blk_cell BK354.out 1).trans rfl; have hfz49_0 := blk_frozen BK354.out 0; have hfz49_1 := blk_frozen BK354.out 1; obtain ⟨Ao50, co50, eo50⟩ := Kd.S_slice HO344.out; subst eo50; have hnb51 := NB355_325.out; have hnc51 := NB325_355.out; have hnb52 := NB355_329.out; have hnc52 := NB329_355.out; have hnb53 := NB355_339.out; have hnc53 := NB339_355.out; have hcz54_0 : w44.cell? ⟨gb355, 0, none⟩ = some (.int .i64 0) := (blk_cell BK355.out 0).trans rfl; have hcz54_1 : w44.cell? ⟨gb355, 1, none⟩ = some (.int .i64 0) := (blk_cell BK355.out 1).trans rfl; have hcz54_2 : w44.cell? ⟨gb355, 2, none⟩ = some (.string (⟨#[]⟩ : ByteArray)) := (blk_cell BK355.out 2).trans rfl; have hcz54_3 : w44.cell? ⟨gb355, 3, none⟩ = some (.slice none 0 0) := (blk_cell BK355.out 3).trans rfl; have hcz54_4 : w44.cell? ⟨gb355, 4, none⟩ = some (.slice none 0 0) := (blk_cell BK355.out 4).trans rfl; have hfz54_0 := blk_frozen BK355.out 0; have hfz54_1 := blk_frozen BK355.out 1; have hfz54_2 := blk_frozen BK355.out 2; have hfz54_3 := blk_frozen BK355.out 3; have hfz54_4 := blk_frozen BK355.out 4; obtain ⟨Ao55, co55, eo55⟩ := Kd.R_slice HO350.out; subst eo55; obtain ⟨Ao56, co56, eo56⟩ := Kd.R_slice HO353.out; subst eo56; have hnb57 := NB329_325.out; have hnc57 := NB325_329.out; have hcz58_0 : w44.cell? ⟨gb329, 0, none⟩ = some (.int .i64 x330000_1) := (blk_cell BK329.out 0).trans rfl; have hcz58_1 : w44.cell? ⟨gb329, 1, none⟩ = some (.slice Ao25 x330001_1.length co25) := (blk_cell BK329.out 1).trans rfl; have hfz58_0 := blk_frozen BK329.out 0; have hfz58_1 := blk_frozen BK329.out 1; have hcz59_0 : w44.cell? ⟨gb325, 0, none⟩ = some (.int .i64 x326000_3) := (blk_cell BK325.out 0).trans rfl; have hcz59_1 : w44.cell? ⟨gb325, 1, none⟩ = some (.slice none 0 0) := (blk_cell BK325.out 1).trans rfl; have hfz59_0 := blk_frozen BK325.out 0; have hfz59_1 := blk_frozen BK325.out 1))
              refine bodyPost_ret (results_ct rfl _ _ gb325 26 #[.int .i64 x330000_1, .slice Ao25 x330001_1.length co25] (0, 0) _ rfl (by (with_reducible repeat (first | refine blk_drewN ?_ _ | refine blk_drew ?_ | refine blk_alloc ?_ _)); refine blk_put (cs := #[.int .i64 x330000_1, .slice none 0 0]) ?_ 1 _ rfl; (with_reducible repeat (first | refine blk_drewN ?_ _ | refine blk_drew ?_ | refine blk_alloc ?_ _)); refine blk_put (cs := #[.int .i64 x326000_3, .slice none 0 0]) ?_ 0 _ rfl; (with_reducible repeat (first | refine blk_drewN ?_ _ | refine blk_drew ?_ | refine blk_alloc ?_ _)); refine blk_far ?_ NB325_355.out _; (with_reducible repeat (first | refine blk_drewN ?_ _ | refine blk_drew ?_ | refine blk_alloc ?_ _)); refine blk_far ?_ NB325_355.out _; (with_reducible repeat (first | refine blk_drewN ?_ _ | refine blk_drew ?_ | refine blk_alloc ?_ _)); refine blk_far ?_ NB325_355.out _; (with_reducible repeat (first | refine blk_drewN ?_ _ | refine blk_drew ?_ | refine blk_alloc ?_ _)); refine blk_far ?_ NB325_355.out _; (with_reducible repeat (first | refine blk_drewN ?_ _ | refine blk_drew ?_ | refine blk_alloc ?_ _)); refine blk_far ?_ NB325_355.out _; (with_reducible repeat (first | refine blk_drewN ?_ _ | refine blk_drew ?_ | refine blk_alloc ?_ _)); refine blk_far ?_ NB325_354.out _; (with_reducible repeat (first | refine blk_drewN ?_ _ | refine blk_drew ?_ | refine blk_alloc ?_ _)); refine blk_far ?_ NB325_354.out _; (with_reducible repeat (first | refine blk_drewN ?_ _ | refine blk_drew ?_ | refine blk_alloc ?_ _)); exact BK325.out) Tryz.underlying26 rfl (by kernel_rfl)) rfl ?_
              exact ⟨_, by first | rfl | (simp [errW_none, errW_some] <;> rfl) | (simp [*, errW_none, errW_some] <;> rfl), by (with_reducible repeat (first | apply Kd.S_alloc | apply Kd.S_drewN | apply Kd.S_drew)); exact Kd.S_mono (Kd.S_far (p := ⟨gb325, 1, none⟩) (Kd.S_far (p := ⟨gb325, 0, none⟩) (Kd.S_far (p := ⟨gb355, 4, none⟩) (Kd.S_far (p := ⟨gb355, 3, none⟩) (Kd.S_far (p := ⟨gb355, 2, none⟩) (Kd.S_far (p := ⟨gb355, 1, none⟩) (Kd.S_far (p := ⟨gb355, 0, none⟩) (Kd.S_far (p := ⟨gb354, 1, none⟩) (Kd.S_far (p := ⟨gb354, 0, none⟩) (Kd.S_types (Kd.S_types (Kd.S_types HO_330001.out BK354.out (by decide)) BK355.out (by decide)) BK325.out (by decide)) (fun _ hk => hk.1.1.2) (.int .i64 t341)) (fun _ hk => hk.1.1.2) (.slice Ao50 t342.length co50)) (fun _ hk => hk.1.2) (.int .i64 t345)) (fun _ hk => hk.1.2) (.int .i64 t346)) (fun _ hk => hk.1.2) (.string t347)) (fun _ hk => hk.1.2) (.slice Ao55 t348.length co55)) (fun _ hk => hk.1.2) (.slice Ao56 t351.length co56)) (fun _ hk => hk.2) (.int .i64 x330000_1)) (fun _ hk => hk.2) (.slice Ao25 x330001_1.length co25)) (fun _ hk => trivial), bl_⟩
             ·rw [if_neg c37] at H
              have c37b0 : (t345 == 1) = false := beq_eq_false_iff_ne.mpr c37
              have c37b1 : (t345 != 1) = true := bne_iff_ne.mpr c37
              have H' := Aside0.mk H
              clear H
              have p340 : 0 ≤ (x42_3 : Int) := od_
              have q340 : x42_3 < (t331.length : Int) := od_
              obtain ⟨ad340, A340_0, c340_0, e340, hx340_0, hl340_0, hi340_0⟩ := at_L2 (Kd.S_reads' HO_40.out).2.2 x42_3 p340 q340
              cases e340
              obtain ⟨ce340, hce340, hMe340, hcc340⟩ := Kd.S_get HO_40.out [] x42_3 p340 (by first | exact q340 | exact od_ | (have e_ := (Kd.S_reads' HO_40.out).1; omega))
              obtain ⟨ve340_0, rfl, ge340_0⟩ := hMe340
              have hv340_0 := hcc340 0 _ rfl
              rw [Nat.add_zero, show ((Kd.slice 9 Kd.string)).sz = 1 from rfl, Nat.mul_one] at hv340_0
              replace hv340_0 := Option.some.inj (hv340_0.symm.trans hx340_0)
              rw [hv340_0] at ge340_0
              have HL340_0 := Aside0.mk (show Kd.R Kd.string 9 _ _ _ _ (rd_L2 t331 x42_3) from ge340_0)
              clear hv340_0 ge340_0
              clear hcc340 hce340
              have HR340_0 := Aside0.mk hi340_0
              have HC340_0 := Aside0.mk hl340_0
              clear hi340_0 hl340_0
              replace p340 := eq_true p340
              replace q340 := eq_true q340
              have hnb60 := NB339_325.out
              have hnc60 := NB325_339.out
              have hnb61 := NB339_329.out
              have hnc61 := NB329_339.out
              have hcz62_0 : wr.cell? ⟨gb339, 0, none⟩ = some (.int .i64 x340000_3) := (blk_cell BK339.out 0).trans rfl
              have hcz62_1 : wr.cell? ⟨gb339, 1, none⟩ = some (u340001) := (blk_cell BK339.out 1).trans rfl
              have hfz62_0 := blk_frozen BK339.out 0
              have hfz62_1 := blk_frozen BK339.out 1
              obtain ⟨Ao63, co63, eo63⟩ := Kd.S_slice HO_340001.out
              subst eo63
              go_wp2_with (first | ((with_reducible refine gate_callee (f := 41) rfl ?_); refine goesL_ (some 49) rfl rfl Tryz.func41 (by kernel_rfl) rfl #[.agg #[.int .i64 x340000_3, .slice Ao63 x340001_3.length co63], .slice A340_0 (rd_L2 t331 x42_3).length c340_0] rfl ga_ ?_; (with_reducible refine (impl_Do.calls x340000_3 _ _ x340001_3 _ _ (rd_L2 t331 x42_3) t341 t342 t345 t346 t347 t348 t351 _ ?side1 ?side2 ?side3 ?side4 A36.out).mono ?_); (case side1 => repeat (first | exact (Kd.S_reads' HO_340001.out).2.2 | (with_reducible refine Kd.C_alloc ?_ _) | (with_reducible refine Kd.C_drewN ?_ _) | (with_reducible refine Kd.C_drew ?_))); (case side2 => exact (Kd.S_reads' HO_340001.out).2.1); (case side3 => repeat (first | exact (by repeat (first | (with_reducible exact HR340_0.out) | (with_reducible refine Kd.C_alloc ?_ _) | (with_reducible refine Kd.C_drewN ?_ _) | (with_reducible refine Kd.C_drew ?_) | exact HR340_0.out)) | (with_reducible refine Kd.C_alloc ?_ _) | (with_reducible refine Kd.C_drewN ?_ _) | (with_reducible refine Kd.C_drew ?_))); (case side4 => exact HC340_0.out); rintro e w64 ⟨v343, v349, v352, rfl, ho0, ho1, ho2, hb⟩; refine ⟨_, rfl, ?_⟩; have n0_ := Aside0.mk (Kd.S_elder' (by (with_reducible repeat (first | apply Kd.S_alloc | apply Kd.S_drewN | apply Kd.S_drew)); exact HO_40.out) (Kd.R_base ho1) hb); have n1_ := Aside0.mk (Kd.S_mono (Kd.S_told (Kd.S_told (Kd.S_old (by (with_reducible repeat (first | apply Kd.S_alloc | apply Kd.S_drewN | apply Kd.S_drew)); exact HO_330001.out) hb) (Kd.S_base ho0)) (Kd.R_base ho1)) (fun _ h_ => h_.1)); have n2_ := Aside0.mk (Kd.S_mono (Kd.S_told (Kd.S_told (Kd.S_old (by (with_reducible repeat (first | apply Kd.S_alloc | apply Kd.S_drewN | apply Kd.S_drew)); exact HO_340001.out) hb) (Kd.S_base ho0)) (Kd.R_base ho1)) (fun _ h_ => h_.1)); have n3_ := Aside0.mk (Kd.R_elder' (by (with_reducible repeat (first | apply Kd.R_alloc | apply Kd.R_drewN | apply Kd.R_drew)); exact HL340_0.out) (Kd.R_base ho1) hb); have n4_ := Aside0.mk (Kd.S_lower (Kd.S_new' (Kd.S_new' (Kd.S_new' ho0 (Kd.S_lt (by (with_reducible repeat (first | apply Kd.S_alloc | apply Kd.S_drewN | apply Kd.S_drew)); exact HO_330001.out))) (Kd.S_lt (by (with_reducible repeat (first | apply Kd.S_alloc | apply Kd.S_drewN | apply Kd.S_drew)); exact HO_340001.out))) (Kd.R_lt (by (with_reducible repeat (first | apply Kd.R_alloc | apply Kd.R_drewN | apply Kd.R_drew)); exact HL340_0.out))) (below_size bl_)); have n5_ := Aside0.mk (Kd.R_lower (Kd.R_new' ho1 (Kd.R_lt (by (with_reducible repeat (first | apply Kd.R_alloc | apply Kd.R_drewN | apply Kd.R_drew)); exact HL340_0.out))) (below_size bl_)); have n6_ := Aside0.mk (Kd.R_lower (Kd.R_new' ho2 (Kd.R_lt (by (with_reducible repeat (first | apply Kd.R_alloc | apply Kd.R_drewN | apply Kd.R_drew)); exact HL340_0.out))) (below_size bl_)); have n7_ := Aside0.mk (blk_below (g := gb325) (o := .cells #[.int .i64 x326000_3, .slice none 0 0] 26 (0, 0)) (bk_ BK325.out) hb); have n8_ := Aside0.mk (blk_below (g := gb329) (o := .cells #[.int .i64 x330000_1, .slice Ao25 x330001_1.length co25] 26 (0, 0)) (bk_ BK329.out) hb); have n9_ := Aside0.mk (blk_below (g := gb339) (o := .cells #[.int .i64 x340000_3, .slice Ao63 x340001_3.length co63] 26 (0, 0)) (bk_ BK339.out) hb); have n10_ := Aside0.mk (Kd.C_below (by repeat (first | (with_reducible exact HR340_0.out) | (with_reducible refine Kd.C_alloc ?_ _) | (with_reducible refine Kd.C_drewN ?_ _) | (with_reducible refine Kd.C_drew ?_) | exact HR340_0.out)) hb); have n11_ := Aside0.mk (below_step bl_ hb); clear HO_40; clear HO_330001; clear HO_340001; clear HL340_0; clear BK325; clear BK329; clear BK339; clear HR340_0; clear HB; have HO_40 := n0_; have HO_330001 := n1_; have HO_340001 := n2_; have HL340_0 := n3_; have HO344 := n4_; have HO350 := n5_; have HO353 := n6_; have BK325 := n7_; have BK329 := n8_; have BK339 := n9_; have HR340_0 := n10_; have HB := n11_; clear n0_ n1_ n2_ n3_ n4_ n5_ n6_ n7_ n8_ n9_ n10_ n11_; (try clear hb); (try clear hb2); (try clear hk); (try clear hi); (try clear ho0); (try clear ho1); (try clear ho2)) | ((with_reducible refine gate_dst (N := 12) rfl ?_); refine box_event ?hg (N := 12) ?hd (cs := #[.int .i64 0, .slice none 0 0]) (t := 26) ?hr ?_; (case hd => rfl); (case hg => rfl); (case hr => first | (go_simp; done) | (go_simp; rfl)); intro gb354 hg w65 hbox hb; have n0_ := Aside0.mk (Kd.S_below (by (with_reducible repeat (first | apply Kd.S_alloc | apply Kd.S_drewN | apply Kd.S_drew)); exact HO_40.out) hb); have n1_ := Aside0.mk (Kd.S_below (by (with_reducible repeat (first | apply Kd.S_alloc | apply Kd.S_drewN | apply Kd.S_drew)); exact HO_330001.out) hb); have n2_ := Aside0.mk (Kd.S_below (by (with_reducible repeat (first | apply Kd.S_alloc | apply Kd.S_drewN | apply Kd.S_drew)); exact HO_340001.out) hb); have n3_ := Aside0.mk (Kd.R_below (by (with_reducible repeat (first | apply Kd.R_alloc | apply Kd.R_drewN | apply Kd.R_drew)); exact HL340_0.out) hb); have n4_ := Aside0.mk (Kd.S_below (by (with_reducible repeat (first | apply Kd.S_alloc | apply Kd.S_drewN | apply Kd.S_drew)); exact HO344.out) hb); have n5_ := Aside0.mk (Kd.R_below (by (with_reducible repeat (first | apply Kd.R_alloc | apply Kd.R_drewN | apply Kd.R_drew)); exact HO350.out) hb); have n6_ := Aside0.mk (Kd.R_below (by (with_reducible repeat (first | apply Kd.R_alloc | apply Kd.R_drewN | apply Kd.R_drew)); exact HO353.out) hb); have n7_ := Aside0.mk (blk_below (g := gb325) (o := .cells #[.int .i64 x326000_3, .slice none 0 0] 26 (0, 0)) (bk_ BK325.out) hb); have n8_ := Aside0.mk (blk_below (g := gb329) (o := .cells #[.int .i64 x330000_1, .slice Ao25 x330001_1.length co25] 26 (0, 0)) (bk_ BK329.out) hb); have n9_ := Aside0.mk (blk_below (g := gb339) (o := .cells #[.int .i64 x340000_3, .slice Ao63 x340001_3.length co63] 26 (0, 0)) (bk_ BK339.out) hb); have n10_ := Aside0.mk (Kd.C_below (by repeat (first | (with_reducible exact HR340_0.out) | (with_reducible refine Kd.C_alloc ?_ _) | (with_reducible refine Kd.C_drewN ?_ _) | (with_reducible refine Kd.C_drew ?_) | exact HR340_0.out)) hb); have n11_ := Aside0.mk (below_step bl_ hb); have n12_ := Aside0.mk (hbox); have n13_ := Aside0.mk ((by rw [hg]; exact (below_size bl_) : w.heap.size ≤ gb354)); have n14_ := Aside0.mk ((by rw [hg]; exact (below_size bl_) : w.heap.size ≤ gb354)); have n15_ := Aside0.mk ((by rw [hg]; exact Nat.ne_of_lt (blk_lt (g := gb325) (o := .cells #[.int .i64 x326000_3, .slice none 0 0] 26 (0, 0)) (bk_ BK325.out)) : gb325 ≠ gb354)); have n16_ := Aside0.mk ((by rw [hg]; exact Nat.ne_of_gt (blk_lt (g := gb325) (o := .cells #[.int .i64 x326000_3, .slice none 0 0] 26 (0, 0)) (bk_ BK325.out)) : gb354 ≠ gb325)); have n17_ := Aside0.mk ((by rw [hg]; exact Nat.ne_of_lt (blk_lt (g := gb329) (o := .cells #[.int .i64 x330000_1, .slice Ao25 x330001_1.length co25] 26 (0, 0)) (bk_ BK329.out)) : gb329 ≠ gb354)); have n18_ := Aside0.mk ((by rw [hg]; exact Nat.ne_of_gt (blk_lt (g := gb329) (o := .cells #[.int .i64 x330000_1, .slice Ao25 x330001_1.length co25] 26 (0, 0)) (bk_ BK329.out)) : gb354 ≠ gb329)); have n19_ := Aside0.mk ((by rw [hg]; exact Nat.ne_of_lt (blk_lt (g := gb339) (o := .cells #[.int .i64 x340000_3, .slice Ao63 x340001_3.length co63] 26 (0, 0)) (bk_ BK339.out)) : gb339 ≠ gb354)); have n20_ := Aside0.mk ((by rw [hg]; exact Nat.ne_of_gt (blk_lt (g := gb339) (o := .cells #[.int .i64 x340000_3, .slice Ao63 x340001_3.length co63] 26 (0, 0)) (bk_ BK339.out)) : gb354 ≠ gb339)); clear HO_40; clear HO_330001; clear HO_340001; clear HL340_0; clear HO344; clear HO350; clear HO353; clear BK325; clear BK329; clear BK339; clear HR340_0; clear HB; have HO_40 := n0_; have HO_330001 := n1_; have HO_340001 := n2_; have HL340_0 := n3_; have HO344 := n4_; have HO350 := n5_; have HO353 := n6_; have BK325 := n7_; have BK329 := n8_; have BK339 := n9_; have HR340_0 := n10_; have HB := n11_; have BK354 := n12_; have GW354 := n13_; have GE354 := n14_; have NB325_354 := n15_; have NB354_325 := n16_; have NB329_354 := n17_; have NB354_329 := n18_; have NB339_354 := n19_; have NB354_339 := n20_; clear n0_ n1_ n2_ n3_ n4_ n5_ n6_ n7_ n8_ n9_ n10_ n11_ n12_ n13_ n14_ n15_ n16_ n17_ n18_ n19_ n20_; clear hb hbox hg) | ((with_reducible refine gate_dst (N := 13) rfl ?_); refine box_event ?hg (N := 13) ?hd (cs := #[.int .i64 0, .int .i64 0, .string (⟨#[]⟩ : ByteArray), .slice none 0 0, .slice none 0 0]) (t := 83) ?hr ?_; (case hd => rfl); (case hg => rfl); (case hr => first | (go_simp; done) | (go_simp; rfl)); intro gb355 hg w66 hbox hb; have n0_ := Aside0.mk (Kd.S_below (by (with_reducible repeat (first | apply Kd.S_alloc | apply Kd.S_drewN | apply Kd.S_drew)); exact HO_40.out) hb); have n1_ := Aside0.mk (Kd.S_below (by (with_reducible repeat (first | apply Kd.S_alloc | apply Kd.S_drewN | apply Kd.S_drew)); exact HO_330001.out) hb); have n2_ := Aside0.mk (Kd.S_below (by (with_reducible repeat (first | apply Kd.S_alloc | apply Kd.S_drewN | apply Kd.S_drew)); exact HO_340001.out) hb); have n3_ := Aside0.mk (Kd.R_below (by (with_reducible repeat (first | apply Kd.R_alloc | apply Kd.R_drewN | apply Kd.R_drew)); exact HL340_0.out) hb); have n4_ := Aside0.mk (Kd.S_below (by (with_reducible repeat (first | apply Kd.S_alloc | apply Kd.S_drewN | apply Kd.S_drew)); exact HO344.out) hb); have n5_ := Aside0.mk (Kd.R_below (by (with_reducible repeat (first | apply Kd.R_alloc | apply Kd.R_drewN | apply Kd.R_drew)); exact HO350.out) hb); have n6_ := Aside0.mk (Kd.R_below (Kd.R_elderB (by (with_reducible repeat (first | apply Kd.R_alloc | apply Kd.R_drewN | apply Kd.R_drew)); exact HO353.out) gb355 (Nat.le_of_eq hg.symm)) hb); have n7_ := Aside0.mk (blk_below (g := gb325) (o := .cells #[.int .i64 x326000_3, .slice none 0 0] 26 (0, 0)) (bk_ BK325.out) hb); have n8_ := Aside0.mk (blk_below (g := gb329) (o := .cells #[.int .i64 x330000_1, .slice Ao25 x330001_1.length co25] 26 (0, 0)) (bk_ BK329.out) hb); have n9_ := Aside0.mk (blk_below (g := gb339) (o := .cells #[.int .i64 x340000_3, .slice Ao63 x340001_3.length co63] 26 (0, 0)) (bk_ BK339.out) hb); have n10_ := Aside0.mk (Kd.C_below (by repeat (first | (with_reducible exact HR340_0.out) | (with_reducible refine Kd.C_alloc ?_ _) | (with_reducible refine Kd.C_drewN ?_ _) | (with_reducible refine Kd.C_drew ?_) | exact HR340_0.out)) hb); have n11_ := Aside0.mk (blk_below (g := gb354) (o := .cells #[.int .i64 0, .slice none 0 0] 26 (0, 0)) (bk_ BK354.out) hb); have n12_ := Aside0.mk (below_step bl_ hb); have n13_ := Aside0.mk (hbox); have n14_ := Aside0.mk ((by rw [hg]; exact (below_size bl_) : w.heap.size ≤ gb355)); have n15_ := Aside0.mk ((by rw [hg]; exact (below_size bl_) : w.heap.size ≤ gb355)); have n16_ := Aside0.mk ((by rw [hg]; exact Nat.ne_of_lt (blk_lt (g := gb325) (o := .cells #[.int .i64 x326000_3, .slice none 0 0] 26 (0, 0)) (bk_ BK325.out)) : gb325 ≠ gb355)); have n17_ := Aside0.mk ((by rw [hg]; exact Nat.ne_of_gt (blk_lt (g := gb325) (o := .cells #[.int .i64 x326000_3, .slice none 0 0] 26 (0, 0)) (bk_ BK325.out)) : gb355 ≠ gb325)); have n18_ := Aside0.mk ((by rw [hg]; exact Nat.ne_of_lt (blk_lt (g := gb329) (o := .cells #[.int .i64 x330000_1, .slice Ao25 x330001_1.length co25] 26 (0, 0)) (bk_ BK329.out)) : gb329 ≠ gb355)); have n19_ := Aside0.mk ((by rw [hg]; exact Nat.ne_of_gt (blk_lt (g := gb329) (o := .cells #[.int .i64 x330000_1, .slice Ao25 x330001_1.length co25] 26 (0, 0)) (bk_ BK329.out)) : gb355 ≠ gb329)); have n20_ := Aside0.mk ((by rw [hg]; exact Nat.ne_of_lt (blk_lt (g := gb339) (o := .cells #[.int .i64 x340000_3, .slice Ao63 x340001_3.length co63] 26 (0, 0)) (bk_ BK339.out)) : gb339 ≠ gb355)); have n21_ := Aside0.mk ((by rw [hg]; exact Nat.ne_of_gt (blk_lt (g := gb339) (o := .cells #[.int .i64 x340000_3, .slice Ao63 x340001_3.length co63] 26 (0, 0)) (bk_ BK339.out)) : gb355 ≠ gb339)); have n22_ := Aside0.mk ((by rw [hg]; exact Nat.ne_of_lt (blk_lt (g := gb354) (o := .cells #[.int .i64 0, .slice none 0 0] 26 (0, 0)) (bk_ BK354.out)) : gb354 ≠ gb355)); have n23_ := Aside0.mk ((by rw [hg]; exact Nat.ne_of_gt (blk_lt (g := gb354) (o := .cells #[.int .i64 0, .slice none 0 0] 26 (0, 0)) (bk_ BK354.out)) : gb355 ≠ gb354)); clear HO_40; clear HO_330001; clear HO_340001; clear HL340_0; clear HO344; clear HO350; clear HO353; clear BK325; clear BK329; clear BK339; clear HR340_0; clear BK354; clear HB; have HO_40 := n0_; have HO_330001 := n1_; have HO_340001 := n2_; have HL340_0 := n3_; have HO344 := n4_; have HO350 := n5_; have HO353 := n6_; have BK325 := n7_; have BK329 := n8_; have BK339 := n9_; have HR340_0 := n10_; have BK354 := n11_; have HB := n12_; have BK355 := n13_; have GW355 := n14_; have GE355 := n15_; have NB325_355 := n16_; have NB355_325 := n17_; have NB329_355 := n18_; have NB355_329 := n19_; have NB339_355 := n20_; have NB355_339 := n21_; have NB354_355 := n22_; have NB355_354 := n23_; clear n0_ n1_ n2_ n3_ n4_ n5_ n6_ n7_ n8_ n9_ n10_ n11_ n12_ n13_ n14_ n15_ n16_ n17_ n18_ n19_ n20_ n21_ n22_ n23_; clear hb hbox hg; have hnb67 := NB354_325.out; have hnc67 := NB325_354.out; have hnb68 := NB354_329.out; have hnc68 := NB329_354.out; have hnb69 := NB354_339.out; have hnc69 := NB339_354.out; have hnb70 := NB354_355.out; have hnc70 := NB355_354.out; have hcz71_0 : w66.cell? ⟨gb354, 0, none⟩ = some (.int .i64 0) := (blk_cell BK354.out 0).trans rfl; have hcz71_1 : w66.cell? ⟨gb354, 1, none⟩ = some (.slice none 0 0) := (blk_cell BK354.out 1).trans rfl; have hfz71_0 := blk_frozen BK354.out 0; have hfz71_1 := blk_frozen BK354.out 1; obtain ⟨Ao72, co72, eo72⟩ := Kd.S_slice HO344.out; subst eo72; have hnb73 := NB355_325.out; have hnc73 := NB325_355.out; have hnb74 := NB355_329.out; have hnc74 := NB329_355.out; have hnb75 := NB355_339.out; have hnc75 := NB339_355.out; have hcz76_0 : w66.cell? ⟨gb355, 0, none⟩ = some (.int .i64 0) := (blk_cell BK355.out 0).trans rfl; have hcz76_1 : w66.cell? ⟨gb355, 1, none⟩ = some (.int .i64 0) := (blk_cell BK355.out 1).trans rfl; have hcz76_2 : w66.cell? ⟨gb355, 2, none⟩ = some (.string (⟨#[]⟩ : ByteArray)) := (blk_cell BK355.out 2).trans rfl; have hcz76_3 : w66.cell? ⟨gb355, 3, none⟩ = some (.slice none 0 0) := (blk_cell BK355.out 3).trans rfl; have hcz76_4 : w66.cell? ⟨gb355, 4, none⟩ = some (.slice none 0 0) := (blk_cell BK355.out 4).trans rfl; have hfz76_0 := blk_frozen BK355.out 0; have hfz76_1 := blk_frozen BK355.out 1; have hfz76_2 := blk_frozen BK355.out 2; have hfz76_3 := blk_frozen BK355.out 3; have hfz76_4 := blk_frozen BK355.out 4; obtain ⟨Ao77, co77, eo77⟩ := Kd.R_slice HO350.out; subst eo77; obtain ⟨Ao78, co78, eo78⟩ := Kd.R_slice HO353.out; subst eo78; have hcz79_0 : w66.cell? ⟨gb339, 0, none⟩ = some (.int .i64 x340000_3) := (blk_cell BK339.out 0).trans rfl; have hcz79_1 : w66.cell? ⟨gb339, 1, none⟩ = some (.slice Ao63 x340001_3.length co63) := (blk_cell BK339.out 1).trans rfl; have hfz79_0 := blk_frozen BK339.out 0; have hfz79_1 := blk_frozen BK339.out 1))
              go_roundg k3
              case measure => have := HK1.out; have := HJ11.out; have := HK3.out; omega
              case rel => exact ⟨(wrap64 (x42_3 + 1)), (x326000_3), (t341), (t342), (.slice Ao72 t342.length co72), rs_, H', ⟨by have := HK1.out; have := HJ11.out; have := HK3.out; omega⟩, ⟨by (with_reducible repeat (first | apply Kd.S_alloc | apply Kd.S_drewN | apply Kd.S_drew)); exact Kd.S_mono (Kd.S_far (p := ⟨gb339, 1, none⟩) (Kd.S_far (p := ⟨gb339, 0, none⟩) (Kd.S_far (p := ⟨gb355, 4, none⟩) (Kd.S_far (p := ⟨gb355, 3, none⟩) (Kd.S_far (p := ⟨gb355, 2, none⟩) (Kd.S_far (p := ⟨gb355, 1, none⟩) (Kd.S_far (p := ⟨gb355, 0, none⟩) (Kd.S_far (p := ⟨gb354, 1, none⟩) (Kd.S_far (p := ⟨gb354, 0, none⟩) (Kd.S_types (Kd.S_types (Kd.S_types HO_40.out BK354.out (by decide)) BK355.out (by decide)) BK339.out (by decide)) (fun _ hk => hk.1.1.2) (.int .i64 t341)) (fun _ hk => hk.1.1.2) (.slice Ao72 t342.length co72)) (fun _ hk => hk.1.2) (.int .i64 t345)) (fun _ hk => hk.1.2) (.int .i64 t346)) (fun _ hk => hk.1.2) (.string t347)) (fun _ hk => hk.1.2) (.slice Ao77 t348.length co77)) (fun _ hk => hk.1.2) (.slice Ao78 t351.length co78)) (fun _ hk => hk.2) (.int .i64 t341)) (fun _ hk => hk.2) (.slice Ao72 t342.length co72)) (fun _ hk => trivial)⟩, ⟨by (with_reducible repeat (first | apply Kd.S_alloc | apply Kd.S_drewN | apply Kd.S_drew)); exact Kd.S_mono (Kd.S_far (p := ⟨gb339, 1, none⟩) (Kd.S_far (p := ⟨gb339, 0, none⟩) (Kd.S_far (p := ⟨gb355, 4, none⟩) (Kd.S_far (p := ⟨gb355, 3, none⟩) (Kd.S_far (p := ⟨gb355, 2, none⟩) (Kd.S_far (p := ⟨gb355, 1, none⟩) (Kd.S_far (p := ⟨gb355, 0, none⟩) (Kd.S_far (p := ⟨gb354, 1, none⟩) (Kd.S_far (p := ⟨gb354, 0, none⟩) (Kd.S_types (Kd.S_types (Kd.S_types HO_330001.out BK354.out (by decide)) BK355.out (by decide)) BK339.out (by decide)) (fun _ hk => hk.1.1.2) (.int .i64 t341)) (fun _ hk => hk.1.1.2) (.slice Ao72 t342.length co72)) (fun _ hk => hk.1.2) (.int .i64 t345)) (fun _ hk => hk.1.2) (.int .i64 t346)) (fun _ hk => hk.1.2) (.string t347)) (fun _ hk => hk.1.2) (.slice Ao77 t348.length co77)) (fun _ hk => hk.1.2) (.slice Ao78 t351.length co78)) (fun _ hk => hk.2) (.int .i64 t341)) (fun _ hk => hk.2) (.slice Ao72 t342.length co72)) (fun _ hk => hk.1.1.1.1.2)⟩, ⟨by (with_reducible repeat (first | apply Kd.S_alloc | apply Kd.S_drewN | apply Kd.S_drew)); exact Kd.S_mono (Kd.S_far (p := ⟨gb339, 1, none⟩) (Kd.S_far (p := ⟨gb339, 0, none⟩) (Kd.S_far (p := ⟨gb355, 4, none⟩) (Kd.S_far (p := ⟨gb355, 3, none⟩) (Kd.S_far (p := ⟨gb355, 2, none⟩) (Kd.S_far (p := ⟨gb355, 1, none⟩) (Kd.S_far (p := ⟨gb355, 0, none⟩) (Kd.S_far (p := ⟨gb354, 1, none⟩) (Kd.S_far (p := ⟨gb354, 0, none⟩) (Kd.S_types (Kd.S_types (Kd.S_types HO344.out BK354.out (by decide)) BK355.out (by decide)) BK339.out (by decide)) (fun _ hk => hk.1.1.2) (.int .i64 t341)) (fun _ hk => hk.1.1.2) (.slice Ao72 t342.length co72)) (fun _ hk => hk.1.2) (.int .i64 t345)) (fun _ hk => hk.1.2) (.int .i64 t346)) (fun _ hk => hk.1.2) (.string t347)) (fun _ hk => hk.1.2) (.slice Ao77 t348.length co77)) (fun _ hk => hk.1.2) (.slice Ao78 t351.length co78)) (fun _ hk => hk.2) (.int .i64 t341)) (fun _ hk => hk.2) (.slice Ao72 t342.length co72)) (fun _ hk => hk.1.1.1.1.1.2)⟩, ⟨bf_ BK325.out⟩, ⟨bf_ BK329.out⟩, ⟨by (with_reducible repeat (first | refine blk_drewN ?_ _ | refine blk_drew ?_ | refine blk_alloc ?_ _)); refine blk_put (cs := #[.int .i64 t341, .slice Ao63 x340001_3.length co63]) ?_ 1 _ rfl; (with_reducible repeat (first | refine blk_drewN ?_ _ | refine blk_drew ?_ | refine blk_alloc ?_ _)); refine blk_put (cs := #[.int .i64 x340000_3, .slice Ao63 x340001_3.length co63]) ?_ 0 _ rfl; (with_reducible repeat (first | refine blk_drewN ?_ _ | refine blk_drew ?_ | refine blk_alloc ?_ _)); refine blk_far ?_ NB339_355.out _; (with_reducible repeat (first | refine blk_drewN ?_ _ | refine blk_drew ?_ | refine blk_alloc ?_ _)); refine blk_far ?_ NB339_355.out _; (with_reducible repeat (first | refine blk_drewN ?_ _ | refine blk_drew ?_ | refine blk_alloc ?_ _)); refine blk_far ?_ NB339_355.out _; (with_reducible repeat (first | refine blk_drewN ?_ _ | refine blk_drew ?_ | refine blk_alloc ?_ _)); refine blk_far ?_ NB339_355.out _; (with_reducible repeat (first | refine blk_drewN ?_ _ | refine blk_drew ?_ | refine blk_alloc ?_ _)); refine blk_far ?_ NB339_355.out _; (with_reducible repeat (first | refine blk_drewN ?_ _ | refine blk_drew ?_ | refine blk_alloc ?_ _)); refine blk_far ?_ NB339_354.out _; (with_reducible repeat (first | refine blk_drewN ?_ _ | refine blk_drew ?_ | refine blk_alloc ?_ _)); refine blk_far ?_ NB339_354.out _; (with_reducible repeat (first | refine blk_drewN ?_ _ | refine blk_drew ?_ | refine blk_alloc ?_ _)); exact BK339.out⟩, ⟨bl_⟩⟩
            ·rw [if_neg c35] at H
             exact absurd H (by simp)
           ·rw [if_neg c34] at H
            exact absurd H (by simp)
          ·rw [if_neg c33] at H
           have c33b0 : decide (x42_3 < (t331.length : Int)) = false := decide_eq_false c33
           clear c33
           have H' := Aside0.mk H
           clear H
           have hnb80 := NB339_325.out
           have hnc80 := NB325_339.out
           have hnb81 := NB339_329.out
           have hnc81 := NB329_339.out
           have hcz82_0 : wr.cell? ⟨gb339, 0, none⟩ = some (.int .i64 x340000_3) := (blk_cell BK339.out 0).trans rfl
           have hcz82_1 : wr.cell? ⟨gb339, 1, none⟩ = some (u340001) := (blk_cell BK339.out 1).trans rfl
           have hfz82_0 := blk_frozen BK339.out 0
           have hfz82_1 := blk_frozen BK339.out 1
           have hnb83 := NB329_325.out
           have hnc83 := NB325_329.out
           have hcz84_0 : wr.cell? ⟨gb329, 0, none⟩ = some (.int .i64 x330000_1) := (blk_cell BK329.out 0).trans rfl
           have hcz84_1 : wr.cell? ⟨gb329, 1, none⟩ = some (.slice Ao25 x330001_1.length co25) := (blk_cell BK329.out 1).trans rfl
           have hfz84_0 := blk_frozen BK329.out 0
           have hfz84_1 := blk_frozen BK329.out 1
           obtain ⟨Ao85, co85, eo85⟩ := Kd.S_slice HO_340001.out
           subst eo85
           go_wp2
           go_roundg k3
           case measure => have := HK1.out; have := HJ11.out; have := HK3.out; omega
           case rel => exact ⟨(wrap64 (x5_1 + t332)), (x326000_3), (x340000_3), (x340001_3), (.slice Ao85 x340001_3.length co85), rs_, H', ⟨by have := HK1.out; have := HJ11.out; have := HK3.out; omega⟩, ⟨by (with_reducible repeat (first | apply Kd.S_alloc | apply Kd.S_drewN | apply Kd.S_drew)); exact Kd.S_mono (Kd.S_far (p := ⟨gb329, 1, none⟩) (Kd.S_far (p := ⟨gb329, 0, none⟩) (Kd.S_types HO_340001.out BK329.out (by decide)) (fun _ hk => hk.2) (.int .i64 x340000_3)) (fun _ hk => hk.2) (.slice Ao85 x340001_3.length co85)) (fun _ hk => trivial)⟩, ⟨bf_ BK325.out⟩, ⟨by (with_reducible repeat (first | refine blk_drewN ?_ _ | refine blk_drew ?_ | refine blk_alloc ?_ _)); refine blk_put (cs := #[.int .i64 x340000_3, .slice Ao25 x330001_1.length co25]) ?_ 1 _ rfl; (with_reducible repeat (first | refine blk_drewN ?_ _ | refine blk_drew ?_ | refine blk_alloc ?_ _)); refine blk_put (cs := #[.int .i64 x330000_1, .slice Ao25 x330001_1.length co25]) ?_ 0 _ rfl; (with_reducible repeat (first | refine blk_drewN ?_ _ | refine blk_drew ?_ | refine blk_alloc ?_ _)); exact BK329.out⟩, ⟨bl_⟩⟩
    ·rw [if_neg c10] at H
     exact absurd H (by simp)
   ·rw [if_neg c9] at H
    exact absurd H (by simp)

/-! ### impl_sameBase: function 31 -/
set_option maxHeartbeats 1000000 in
set_option maxRecDepth 100000 in
theorem same_nil (a b : Int) (A B : Option Addr) (c d : Nat) (w : World) : Calls Tryz.prog 31 #[.agg #[.int .i64 a, .slice A 0 c], .agg #[.int .i64 b, .slice B 0 d]] w fun e w' => e = .returned (.bool (decide (a = b))) ∧ Below w.heap.size w w' := by
 have hu := Tryz.underlying26
 by_cases hab : a = b
 ·have b0 : (a == b) = true := by simpa using hab
  go_enter Tryz.func31, Tryz.ntmps31
  go_wp2
  refine wp_loop_rounds 1 ?_
  rw [rounds_succ]
  go_wp2
  go_ret
  rw [decide_eq_true hab]
  exact ⟨rfl, by repeat (first | (with_reducible first | exact Below.refl _ _ | apply below_alloc | apply pw_below_drewN | apply below_drew1 | refine below_set ?_ (Nat.le_refl _)) | exact Below.refl _ _)⟩
 ·have b0 : (a == b) = false := by simpa using hab
  go_enter Tryz.func31, Tryz.ntmps31
  go_wp2
  go_ret
  rw [decide_eq_false hab]
  exact ⟨rfl, by repeat (first | (with_reducible first | exact Below.refl _ _ | apply below_alloc | apply pw_below_drewN | apply below_drew1 | refine below_set ?_ (Nat.le_refl _)) | exact Below.refl _ _)⟩
def impl_sameBase.f (a0_0 : Int) (l0_1 : List (S67)) (a1_0 : Int) (l1_1 : List (S67)) : Option (Bool) := if l0_1.isEmpty = true then (if l1_1.isEmpty = true then some (decide (a0_0 = a1_0)) else none) else none
theorem impl_sameBase.calls (a0_0 : Int) (A0_1 : Option Addr) (c0_1 : Nat) (l0_1 : List (S67)) (a1_0 : Int) (A1_1 : Option Addr) (c1_1 : Nat) (l1_1 : List (S67)) (r : Bool) (w : World) (hr0_1 : Kd.C k67 w A0_1 l0_1.length l0_1) (hc0_1 : l0_1.length ≤ c0_1) (hr1_1 : Kd.C k67 w A1_1 l1_1.length l1_1) (hc1_1 : l1_1.length ≤ c1_1) (h : impl_sameBase.f a0_0 l0_1 a1_0 l1_1 = some r) :
  Calls Tryz.prog 31 #[.agg #[.int .i64 a0_0, .slice A0_1 l0_1.length c0_1], .agg #[.int .i64 a1_0, .slice A1_1 l1_1.length c1_1]] w fun e w' => e = .returned (.bool r) ∧ Below w.heap.size w w' := by
 unfold impl_sameBase.f at h
 split at h
 ·rename_i he
  obtain rfl := List.isEmpty_iff.1 he
  split at h
  ·rename_i he2
   obtain rfl := List.isEmpty_iff.1 he2
   obtain rfl := Option.some.inj h
   exact same_nil a0_0 a1_0 A0_1 A1_1 c0_1 c1_1 w
  ·cases h
 ·cases h

end Go.Proofs.YtkgomifdmpkaeaaGreatDoor.Ldn
