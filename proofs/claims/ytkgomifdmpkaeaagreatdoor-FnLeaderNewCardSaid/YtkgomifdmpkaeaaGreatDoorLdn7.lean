/- Contracts of functions of the program: each call returns what the plain function '.f' of that name says, wherever it says something. -/
import Derived.Test.YtkgomifdmpkaeaaGreatDoorLdn0
import Derived.Test.YtkgomifdmpkaeaaGreatDoorLdn1
import Derived.Test.YtkgomifdmpkaeaaGreatDoorLdn6
namespace Go.Proofs.YtkgomifdmpkaeaaGreatDoor.Ldn
open Go.RowKit Go.Proofs.YtkgomifdmpkaeaaGreatDoorW.PrintWords Go.Proofs.YtkgomifdmpkaeaaGreatDoorW.PrintLast Go.Proofs.YtkgomifdmpkaeaaGreatDoorW.PrintMore
attribute [local go_sem] max2_int min2_int max_two min_two max_three min_three max_four min_four   -- for this text's walks alone
set_option linter.unusedVariables false
set_option linter.unusedSimpArgs false

/-! ### impl_RecordGet: function 40 -/
mutual
def impl_RecordGet.j0 : Nat → ByteArray → List ByteArray → Int → Bool → Option (Int × (List (List ByteArray)) × Int)
 | 0, _, _, _, _ => none
 | k + 1, x0, x5, x6, x31 => if x31 = true then (some (0, (([] : List (List ByteArray))), 0)) else (if 1 < (x5.length : Int) then ((impl_IntGet.f (rdOf ByteArray.empty x5 1)).bind fun bt302 => (if 2 < (x5.length : Int) then ((impl_IntGet.f (rdOf ByteArray.empty x5 2)).bind fun bt305 => (if bt302.2 = true then (if bt305.2 = true then ((impl_within.f bt302.1 0 1000000).bind fun t307 => (if t307 = true then ((impl_within.f bt305.1 1 60).bind fun t308 => (impl_RecordGet.j1 k x0 x6 bt302.1 bt305.1 (!t308))) else (impl_RecordGet.j1 k x0 x6 bt302.1 bt305.1 true))) else (impl_RecordGet.j1 k x0 x6 bt302.1 bt305.1 true)) else (impl_RecordGet.j1 k x0 x6 bt302.1 bt305.1 true))) else (none))) else (none))
def impl_RecordGet.j1 : Nat → ByteArray → Int → Int → Int → Bool → Option (Int × (List (List ByteArray)) × Int)
 | 0, _, _, _, _, _ => none
 | k + 1, x0, x6, x7, x9, x62 => if x62 = true then (some (0, (([] : List (List ByteArray))), 0)) else (impl_RecordGet.l0 k x0 x6 x7 (([] : List (List ByteArray))) x9 0)
def impl_RecordGet.l0 : Nat → ByteArray → Int → Int → List (List ByteArray) → Int → Int → Option (Int × (List (List ByteArray)) × Int)
 | 0, _, _, _, _, _, _ => none
 | k + 1, x0, x6, x7, x11, x65, x66 => if x66 < x65 then (if 0 ≤ x6 then (if x6 ≤ (x0.size : Int) then ((impl_OrderGet.f (x0.extract (x6 : Int).toNat x0.size)).bind fun bt315 => (if bt315.2 ≤ 0 then (some (0, (([] : List (List ByteArray))), 0)) else (if x11.length < 5864062014805 then (impl_RecordGet.l0 k x0 (wrap64 (x6 + bt315.2)) x7 (x11 ++ [bt315.1]) x65 (wrap64 (x66 + 1))) else (none)))) else (none)) else (none)) else (some (x7, x11, x6))
end
def impl_RecordGet.f (k : Nat) (a0 : ByteArray) : Option (Int × (List (List ByteArray)) × Int) := (impl_OrderGet.f a0).bind fun bt293 => (if bt293.2 ≤ 0 then (impl_RecordGet.j0 k a0 bt293.1 bt293.2 true) else (if (bt293.1.length : Int) = 3 then (if 0 < (bt293.1.length : Int) then (impl_RecordGet.j0 k a0 bt293.1 bt293.2 ((rdOf ByteArray.empty bt293.1 0).toList != ([65, 84] : List UInt8))) else (none)) else (impl_RecordGet.j0 k a0 bt293.1 bt293.2 true)))
theorem impl_RecordGet.mono_l : ∀ k, (∀ y0 y1 y2 y3, LeO (impl_RecordGet.j0 k y0 y1 y2 y3) (impl_RecordGet.j0 (k + 1) y0 y1 y2 y3)) ∧ (∀ y0 y1 y2 y3 y4, LeO (impl_RecordGet.j1 k y0 y1 y2 y3 y4) (impl_RecordGet.j1 (k + 1) y0 y1 y2 y3 y4)) ∧ (∀ y0 y1 y2 y3 y4 y5, LeO (impl_RecordGet.l0 k y0 y1 y2 y3 y4 y5) (impl_RecordGet.l0 (k + 1) y0 y1 y2 y3 y4 y5))
 | 0 => ⟨fun _ _ _ _ r h => by simp [impl_RecordGet.j0] at h, fun _ _ _ _ _ r h => by simp [impl_RecordGet.j1] at h, fun _ _ _ _ _ _ r h => by simp [impl_RecordGet.l0] at h⟩
 | k + 1 => by
  obtain ⟨ih0, ih1, ih2⟩ := impl_RecordGet.mono_l k
  refine ⟨?_, ?_, ?_⟩
  ·intro y0 y1 y2 y3
   unfold impl_RecordGet.j0
   repeat' first
   | (with_reducible exact ih0 _ _ _ _)
   | (with_reducible exact ih1 _ _ _ _ _)
   | (with_reducible exact ih2 _ _ _ _ _ _)
   | (with_reducible exact LeO.refl _)
   | (with_reducible exact LeO.none _)
   | (with_reducible refine LeO.ite ?_ ?_)
   | (with_reducible refine LeO.bind ?_ (fun _ => ?_))
   | exact ih0 _ _ _ _
   | exact ih1 _ _ _ _ _
   | exact ih2 _ _ _ _ _ _
   | exact LeO.none _
   | refine LeO.ite ?_ ?_
   | refine LeO.bind ?_ (fun _ => ?_)
  ·intro y0 y1 y2 y3 y4
   unfold impl_RecordGet.j1
   repeat' first
   | (with_reducible exact ih0 _ _ _ _)
   | (with_reducible exact ih1 _ _ _ _ _)
   | (with_reducible exact ih2 _ _ _ _ _ _)
   | (with_reducible exact LeO.refl _)
   | (with_reducible exact LeO.none _)
   | (with_reducible refine LeO.ite ?_ ?_)
   | (with_reducible refine LeO.bind ?_ (fun _ => ?_))
   | exact ih0 _ _ _ _
   | exact ih1 _ _ _ _ _
   | exact ih2 _ _ _ _ _ _
   | exact LeO.none _
   | refine LeO.ite ?_ ?_
   | refine LeO.bind ?_ (fun _ => ?_)
  ·intro y0 y1 y2 y3 y4 y5
   unfold impl_RecordGet.l0
   repeat' first
   | (with_reducible exact ih0 _ _ _ _)
   | (with_reducible exact ih1 _ _ _ _ _)
   | (with_reducible exact ih2 _ _ _ _ _ _)
   | (with_reducible exact LeO.refl _)
   | (with_reducible exact LeO.none _)
   | (with_reducible refine LeO.ite ?_ ?_)
   | (with_reducible refine LeO.bind ?_ (fun _ => ?_))
   | exact ih0 _ _ _ _
   | exact ih1 _ _ _ _ _
   | exact ih2 _ _ _ _ _ _
   | exact LeO.none _
   | refine LeO.ite ?_ ?_
   | refine LeO.bind ?_ (fun _ => ?_)
theorem impl_RecordGet.mono : ∀ a0 k, LeO (impl_RecordGet.f k a0) (impl_RecordGet.f (k + 1) a0) := by
 intro a0 k
 obtain ⟨ih0, ih1, ih2⟩ := impl_RecordGet.mono_l k
 unfold impl_RecordGet.f
 repeat' first
   | (with_reducible exact ih0 _ _ _ _)
   | (with_reducible exact ih1 _ _ _ _ _)
   | (with_reducible exact ih2 _ _ _ _ _ _)
   | (with_reducible exact LeO.refl _)
   | (with_reducible exact LeO.none _)
   | (with_reducible refine LeO.ite ?_ ?_)
   | (with_reducible refine LeO.bind ?_ (fun _ => ?_))
   | exact ih0 _ _ _ _
   | exact ih1 _ _ _ _ _
   | exact ih2 _ _ _ _ _ _
   | exact LeO.none _
   | refine LeO.ite ?_ ?_
   | refine LeO.bind ?_ (fun _ => ?_)
set_option maxHeartbeats 8000000 in
set_option maxRecDepth 100000 in
theorem impl_RecordGet.calls (k : Nat) (a0 : ByteArray) (r1 : Int) (r2 : List (List ByteArray)) (r3 : Int) (w : World) (h : impl_RecordGet.f k a0 = some (r1, r2, r3)) :
  Calls Tryz.prog 40 #[.string a0] w fun e w' => ∃ v1_ : Value, e = .returned (.tuple #[.int .i64 r1, v1_, .int .i64 r3]) ∧ Kd.S (Kd.slice 9 Kd.string) 55 w' w.heap.size (fun _ => True) v1_ r2 ∧ Below w.heap.size w w' := by
 have HB := Aside0.mk (Below.refl w.heap.size w)
 have H : ((impl_OrderGet.f a0).bind fun bt293 => (if bt293.2 ≤ 0 then (impl_RecordGet.j0 k a0 bt293.1 bt293.2 true) else (if (bt293.1.length : Int) = 3 then (if 0 < (bt293.1.length : Int) then (impl_RecordGet.j0 k a0 bt293.1 bt293.2 ((rdOf ByteArray.empty bt293.1 0).toList != ([65, 84] : List UInt8))) else (none)) else (impl_RecordGet.j0 k a0 bt293.1 bt293.2 true)))) = some (r1, r2, r3) := h
 clear h
 replace H := Option.bind_eq_some_iff.mp H
 obtain ⟨⟨t293, t294⟩, A20, H⟩ := H
 replace H : (if t294 ≤ 0 then (impl_RecordGet.j0 k a0 t293 t294 true) else (if (t293.length : Int) = 3 then (if 0 < (t293.length : Int) then (impl_RecordGet.j0 k a0 t293 t294 ((rdOf ByteArray.empty t293 0).toList != ([65, 84] : List UInt8))) else (none)) else (impl_RecordGet.j0 k a0 t293 t294 true))) = some (r1, r2, r3) := H
 have A2 := Aside0.mk A20
 clear A20
 have HC3 := Aside0.mk H
 clear H
 go_enter Tryz.func40, Tryz.ntmps40
 go_upto_region 2 with (first | ((with_reducible refine gate_callee (f := 50) rfl ?_); refine goesL_ (some 16) rfl rfl Tryz.func50 (by kernel_rfl) rfl #[.string a0] rfl ga_ ?_; (with_reducible refine (impl_OrderGet.calls a0 t293 t294 _ A2.out).mono ?_); rintro e w4 ⟨v295, rfl, ho0, hb⟩; refine ⟨_, rfl, ?_⟩; have n0_ := Aside0.mk (Kd.R_lower ho0 (below_size bl_)); have n1_ := Aside0.mk (below_step bl_ hb); clear HB; have HO296 := n0_; have HB := n1_; clear n0_ n1_; (try clear hb); (try clear hb2); (try clear hk); (try clear hi); (try clear ho0)))
 (try simp only [Act.put, List.setIfInBounds_toArray, List.set_cons_zero, List.set_cons_succ])
 go_cut [31] (fun v31 wc => ∃ (kq : Nat) (x31_2 : Bool), v31 = .bool x31_2 ∧ Aside0 (impl_RecordGet.j0 kq a0 t293 t294 x31_2 = some (r1, r2, r3)) ∧ Aside0 (kq ≤ k) ∧ Aside0 (Kd.R Kd.string 9 wc w.heap.size (fun _ => True) v295 t293) ∧ Aside0 (Below w.heap.size w wc))
 case first =>
  have H := HC3.out
  clear HC3
  by_cases c5 : t294 ≤ 0
  ·rw [if_pos c5] at H
   have c5b0 : decide (t294 ≤ 0) = true := decide_eq_true c5
   clear c5
   (first | rw [c5b0] | (simp only [i64_w, i32_w]; rw [c5b0]) | skip)
   have H' := Aside0.mk H
   clear H
   go_wp2
   go_meet
   case rel => exact ⟨_, (true), rs_, H', ⟨by first | omega | exact Nat.le_refl _⟩, ⟨by (with_reducible repeat (first | apply Kd.R_alloc | apply Kd.R_drewN | apply Kd.R_drew)); exact HO296.out⟩, ⟨bl_⟩⟩
  ·rw [if_neg c5] at H
   have c5b0 : decide (t294 ≤ 0) = false := decide_eq_false c5
   clear c5
   (first | rw [c5b0] | (simp only [i64_w, i32_w]; rw [c5b0]) | skip)
   by_cases c6 : (t293.length : Int) = 3
   ·rw [if_pos c6] at H
    have c6b0 : ((t293.length : Int) == 3) = true := beq_iff_eq.mpr c6
    have c6b1 : ((t293.length : Int) != 3) = false := bne_eq_false_iff_eq.mpr c6
    clear c6
    by_cases c7 : 0 < (t293.length : Int)
    ·rw [if_pos c7] at H
     have c7b0 : decide (0 < (t293.length : Int)) = true := decide_eq_true c7
     have c7b1 : decide (0 < t293.length) = true := decide_eq_true (by omega)
     clear c7
     have H' := Aside0.mk H
     clear H
     obtain ⟨Ao8, co8, eo8⟩ := Kd.R_slice HO296.out
     subst eo8
     have p297 : 0 ≤ (0 : Int) := (by omega)
     have q297 : 0 < (t293.length : Int) := od_
     obtain ⟨ad297, e297, hx297_0⟩ := Kd.at_string (Kd.R_reads' HO296.out).2.2 0 p297 q297
     cases e297
     have qi297 : (0 < t293.length) = True := eq_true (by omega)
     (try rw [show ((0 : Int)).toNat = 0 from rfl] at hx297_0)
     (try rw [Addr.add_zero'] at hx297_0)
     replace p297 := eq_true p297
     replace q297 := eq_true q297
     go_wp2
     go_meet
     case rel => exact ⟨_, (((rdOf ByteArray.empty t293 0).toList != ([65, 84] : List UInt8))), rs_, H', ⟨by first | omega | exact Nat.le_refl _⟩, ⟨by (with_reducible repeat (first | apply Kd.R_alloc | apply Kd.R_drewN | apply Kd.R_drew)); exact HO296.out⟩, ⟨bl_⟩⟩
    ·rw [if_neg c7] at H
     exact absurd H (by simp)
   ·rw [if_neg c6] at H
    have c6b0 : ((t293.length : Int) == 3) = false := beq_eq_false_iff_ne.mpr c6
    have c6b1 : ((t293.length : Int) != 3) = true := bne_iff_ne.mpr c6
    have H' := Aside0.mk H
    clear H
    obtain ⟨Ao9, co9, eo9⟩ := Kd.R_slice HO296.out
    subst eo9
    go_wp2
    go_meet
    case rel => exact ⟨_, (true), rs_, H', ⟨by first | omega | exact Nat.le_refl _⟩, ⟨by (with_reducible repeat (first | apply Kd.R_alloc | apply Kd.R_drewN | apply Kd.R_drew)); exact HO296.out⟩, ⟨bl_⟩⟩
 case rest =>
  clear HC3
  try clear p2
  try clear q2
  try clear hx2
  try clear qi2
  try clear c4
  try clear c5
  try clear c5b0
  try clear c6
  try clear c6b0
  try clear c6b1
  try clear c7
  try clear c7b0
  try clear c7b1
  try clear hx297_0
  try clear p297
  try clear q297
  obtain ⟨kq, x31_2, rfl, HA, HJ2, HO_5, HB⟩ := hcut
  cases kq with
  | zero => exact absurd HA.out (by simp [impl_RecordGet.j0])
  | succ kj2 =>
   have H := HA.out
   clear HA
   simp only [impl_RecordGet.j0] at H
   by_cases c10 : x31_2 = true
   ·subst c10
    have H1 : (some (0, (([] : List (List ByteArray))), 0)) = some (r1, r2, r3) := by rw [if_pos rfl] at H; exact H
    clear H
    have H := H1
    clear H1
    obtain ⟨y298, hy298⟩ : ∃ y_ : List (List ByteArray), y_ = (([] : List (List ByteArray))) := ⟨_, rfl⟩
    replace H : (some (0, y298, 0)) = some (r1, r2, r3) := by first | (rw [hy298]; with_reducible exact H) | (have H2_ := (Option.bind_some _ _).symm.trans H; rw [hy298]; with_reducible exact H2_) | (have H2_ := (Option.bind_some _ _).symm.trans H; with_reducible exact H2_) | with_reducible exact H | (rw [hy298]; exact H) | exact H
    have Ny298 := Aside0.mk hy298
    clear hy298
    simp only [Option.some.injEq, Prod.mk.injEq] at H
    obtain ⟨rfl, rfl, rfl⟩ := H
    go_wp2_with (first | ((with_reducible refine gate_dst (N := 32) rfl ?_); (try (refine gate_guard (by rfl) ?_; dsimp only)); refine Kd.S_lit (Kd.slice 9 Kd.string) _ 55 ?hg (N := 32) ?hd (xs := ([] : List (List ByteArray))) (inner := []) (ok := fun _ => True) (okp := fun _ => True) ?hr ?hp (fun _ hk => hk) trivial (Below.refl _ _) (Nat.le_refl _) (by simp) ?_; (case hd => rfl); (case hg => rfl); (case hr => first | (go_simp; done) | (go_simp; rfl)); (case hp => exact (Reps.none _ _)); intro v299 w11 ho12 hb hg_ hnew_; clear hg_ hnew_; (first | rw [← Ny298.out] at ho12 | (simp only [Int.reduceToNat] at ho12; rw [← Ny298.out] at ho12)); have n0_ := Aside0.mk (Kd.R_below (by (with_reducible repeat (first | apply Kd.R_alloc | apply Kd.R_drewN | apply Kd.R_drew)); exact HO_5.out) hb); have n1_ := Aside0.mk (Kd.S_lower (Kd.S_new' ho12 (Kd.R_lt (by (with_reducible repeat (first | apply Kd.R_alloc | apply Kd.R_drewN | apply Kd.R_drew)); exact HO_5.out))) (below_size bl_)); have n2_ := Aside0.mk (below_step bl_ hb); clear HO_5; clear HB; have HO_5 := n0_; have HO300 := n1_; have HB := n2_; clear n0_ n1_ n2_; clear hb ho12))
    go_ret3
    exact ⟨_, by first | rfl | (simp [errW_none, errW_some] <;> rfl) | (simp [*, errW_none, errW_some] <;> rfl), by (with_reducible repeat (first | apply Kd.S_alloc | apply Kd.S_drewN | apply Kd.S_drew)); exact Kd.S_mono HO300.out (fun _ hk => trivial), bl_⟩
   ·replace c10 := Bool.eq_false_iff.mpr c10
    subst c10
    have H1 : (if 1 < (t293.length : Int) then ((impl_IntGet.f (rdOf ByteArray.empty t293 1)).bind fun bt302 => (if 2 < (t293.length : Int) then ((impl_IntGet.f (rdOf ByteArray.empty t293 2)).bind fun bt305 => (if bt302.2 = true then (if bt305.2 = true then ((impl_within.f bt302.1 0 1000000).bind fun t307 => (if t307 = true then ((impl_within.f bt305.1 1 60).bind fun t308 => (impl_RecordGet.j1 kj2 a0 t294 bt302.1 bt305.1 (!t308))) else (impl_RecordGet.j1 kj2 a0 t294 bt302.1 bt305.1 true))) else (impl_RecordGet.j1 kj2 a0 t294 bt302.1 bt305.1 true)) else (impl_RecordGet.j1 kj2 a0 t294 bt302.1 bt305.1 true))) else (none))) else (none)) = some (r1, r2, r3) := by rw [if_neg (show ¬ (false = true) by decide)] at H; exact H
    clear H
    have H := H1
    clear H1
    by_cases c13 : 1 < (t293.length : Int)
    ·rw [if_pos c13] at H
     have c13b0 : decide (1 < (t293.length : Int)) = true := decide_eq_true c13
     have c13b1 : decide (1 < t293.length) = true := decide_eq_true (by omega)
     clear c13
     replace H := Option.bind_eq_some_iff.mp H
     obtain ⟨⟨t302, t303⟩, A140, H⟩ := H
     replace H : (if 2 < (t293.length : Int) then ((impl_IntGet.f (rdOf ByteArray.empty t293 2)).bind fun bt305 => (if t303 = true then (if bt305.2 = true then ((impl_within.f t302 0 1000000).bind fun t307 => (if t307 = true then ((impl_within.f bt305.1 1 60).bind fun t308 => (impl_RecordGet.j1 kj2 a0 t294 t302 bt305.1 (!t308))) else (impl_RecordGet.j1 kj2 a0 t294 t302 bt305.1 true))) else (impl_RecordGet.j1 kj2 a0 t294 t302 bt305.1 true)) else (impl_RecordGet.j1 kj2 a0 t294 t302 bt305.1 true))) else (none)) = some (r1, r2, r3) := H
     have A14 := Aside0.mk A140
     clear A140
     by_cases c15 : 2 < (t293.length : Int)
     ·rw [if_pos c15] at H
      have c15b0 : decide (2 < (t293.length : Int)) = true := decide_eq_true c15
      have c15b1 : decide (2 < t293.length) = true := decide_eq_true (by omega)
      clear c15
      replace H := Option.bind_eq_some_iff.mp H
      obtain ⟨⟨t305, t306⟩, A160, H⟩ := H
      replace H : (if t303 = true then (if t306 = true then ((impl_within.f t302 0 1000000).bind fun t307 => (if t307 = true then ((impl_within.f t305 1 60).bind fun t308 => (impl_RecordGet.j1 kj2 a0 t294 t302 t305 (!t308))) else (impl_RecordGet.j1 kj2 a0 t294 t302 t305 true))) else (impl_RecordGet.j1 kj2 a0 t294 t302 t305 true)) else (impl_RecordGet.j1 kj2 a0 t294 t302 t305 true)) = some (r1, r2, r3) := H
      have A16 := Aside0.mk A160
      clear A160
      have HC17 := Aside0.mk H
      clear H
      obtain ⟨Ao18, co18, eo18⟩ := Kd.R_slice HO_5.out
      subst eo18
      have p301 : 0 ≤ (1 : Int) := (by omega)
      have q301 : 1 < (t293.length : Int) := od_
      obtain ⟨ad301, e301, hx301_0⟩ := Kd.at_string (Kd.R_reads' HO_5.out).2.2 1 p301 q301
      cases e301
      (try simp only [show (1 : Int).toNat = 1 from rfl, Nat.reduceMul, Nat.reduceEqDiff, Go.Addr.add, ↓reduceIte] at hx301_0)
      have qi301 : (1 < t293.length) = True := eq_true (by omega)
      (try rw [show ((1 : Int)).toNat = 1 from rfl] at hx301_0)
      replace p301 := eq_true p301
      replace q301 := eq_true q301
      go_upto_region 6 with (first | ((with_reducible refine gate_callee (f := 51) rfl ?_); refine goesL_ (some 37) rfl rfl Tryz.func51 (by kernel_rfl) rfl #[.string (rdOf ByteArray.empty t293 1)] rfl ga_ ?_; (with_reducible refine (impl_IntGet.calls (rdOf ByteArray.empty t293 1) t302 t303 _ A14.out).mono ?_); rintro e w19 ⟨rfl, hb⟩; refine ⟨_, rfl, ?_⟩; have n0_ := Aside0.mk (Kd.R_below (by (with_reducible repeat (first | apply Kd.R_alloc | apply Kd.R_drewN | apply Kd.R_drew)); exact HO_5.out) hb); have n1_ := Aside0.mk (below_step bl_ hb); clear HO_5; clear HB; have HO_5 := n0_; have HB := n1_; clear n0_ n1_; (try clear hb); (try clear hb2); (try clear hk); (try clear hi); have p304 : 0 ≤ (2 : Int) := (by omega); have q304 : 2 < (t293.length : Int) := od_; obtain ⟨ad304, e304, hx304_0⟩ := Kd.at_string (Kd.R_reads' HO_5.out).2.2 2 p304 q304; obtain rfl : ad301 = ad304 := (by injection e304); (try simp only [show (2 : Int).toNat = 2 from rfl, Nat.reduceMul, Nat.reduceEqDiff, Go.Addr.add, ↓reduceIte] at hx304_0); have qi304 : (2 < t293.length) = True := eq_true (by omega); (try rw [show ((2 : Int)).toNat = 2 from rfl] at hx304_0); replace p304 := eq_true p304; replace q304 := eq_true q304) | ((with_reducible refine gate_callee (f := 51) rfl ?_); refine goesL_ (some 44) rfl rfl Tryz.func51 (by kernel_rfl) rfl #[.string (rdOf ByteArray.empty t293 2)] rfl ga_ ?_; (with_reducible refine (impl_IntGet.calls (rdOf ByteArray.empty t293 2) t305 t306 _ A16.out).mono ?_); rintro e w20 ⟨rfl, hb⟩; refine ⟨_, rfl, ?_⟩; have n0_ := Aside0.mk (Kd.R_below (by (with_reducible repeat (first | apply Kd.R_alloc | apply Kd.R_drewN | apply Kd.R_drew)); exact HO_5.out) hb); have n1_ := Aside0.mk (below_step bl_ hb); clear HO_5; clear HB; have HO_5 := n0_; have HB := n1_; clear n0_ n1_; (try clear hb); (try clear hb2); (try clear hk); (try clear hi)))
      (try simp only [Act.put, List.setIfInBounds_toArray, List.set_cons_zero, List.set_cons_succ])
      go_cut [62] (fun v62 wc => ∃ (kq : Nat) (x62_16 : Bool), v62 = .bool x62_16 ∧ Aside0 (impl_RecordGet.j1 kq a0 t294 t302 t305 x62_16 = some (r1, r2, r3)) ∧ Aside0 (kq ≤ kj2) ∧ Aside0 (Below w.heap.size w wc))
      case first =>
       have H := HC17.out
       clear HC17
       by_cases c21 : t303 = true
       ·subst c21
        have H1 : (if t306 = true then ((impl_within.f t302 0 1000000).bind fun t307 => (if t307 = true then ((impl_within.f t305 1 60).bind fun t308 => (impl_RecordGet.j1 kj2 a0 t294 t302 t305 (!t308))) else (impl_RecordGet.j1 kj2 a0 t294 t302 t305 true))) else (impl_RecordGet.j1 kj2 a0 t294 t302 t305 true)) = some (r1, r2, r3) := by rw [if_pos rfl] at H; exact H
        clear H
        have H := H1
        clear H1
        by_cases c22 : t306 = true
        ·subst c22
         have H1 : ((impl_within.f t302 0 1000000).bind fun t307 => (if t307 = true then ((impl_within.f t305 1 60).bind fun t308 => (impl_RecordGet.j1 kj2 a0 t294 t302 t305 (!t308))) else (impl_RecordGet.j1 kj2 a0 t294 t302 t305 true))) = some (r1, r2, r3) := by rw [if_pos rfl] at H; exact H
         clear H
         have H := H1
         clear H1
         replace H := Option.bind_eq_some_iff.mp H
         obtain ⟨t307, A230, H⟩ := H
         replace H : (if t307 = true then ((impl_within.f t305 1 60).bind fun t308 => (impl_RecordGet.j1 kj2 a0 t294 t302 t305 (!t308))) else (impl_RecordGet.j1 kj2 a0 t294 t302 t305 true)) = some (r1, r2, r3) := H
         have A23 := Aside0.mk A230
         clear A230
         by_cases c24 : t307 = true
         ·subst c24
          have H1 : ((impl_within.f t305 1 60).bind fun t308 => (impl_RecordGet.j1 kj2 a0 t294 t302 t305 (!t308))) = some (r1, r2, r3) := by rw [if_pos rfl] at H; exact H
          clear H
          have H := H1
          clear H1
          replace H := Option.bind_eq_some_iff.mp H
          obtain ⟨t308, A250, H⟩ := H
          replace H : (impl_RecordGet.j1 kj2 a0 t294 t302 t305 (!t308)) = some (r1, r2, r3) := H
          have A25 := Aside0.mk A250
          clear A250
          have H' := Aside0.mk H
          clear H
          go_wp2_with (first | (go_at_call 19; (with_reducible refine (impl_within.calls t302 0 1000000 true _ A23.out).mono ?_); rintro e w' ⟨rfl, ⟨nd, rfl⟩⟩) | (go_at_call 19; (with_reducible refine (impl_within.calls t305 1 60 t308 _ A25.out).mono ?_); rintro e w' ⟨rfl, ⟨nd, rfl⟩⟩))
          go_meet
          case rel => exact ⟨_, (!t308), rs_, H', ⟨by have := HJ2.out; first | omega | exact Nat.le_refl _⟩, ⟨bl_⟩⟩
         ·replace c24 := Bool.eq_false_iff.mpr c24
          subst c24
          have H1 : (impl_RecordGet.j1 kj2 a0 t294 t302 t305 true) = some (r1, r2, r3) := by rw [if_neg (show ¬ (false = true) by decide)] at H; exact H
          clear H
          have H := H1
          clear H1
          have H' := Aside0.mk H
          clear H
          go_wp2_with (first | (go_at_call 19; (with_reducible refine (impl_within.calls t302 0 1000000 false _ A23.out).mono ?_); rintro e w' ⟨rfl, ⟨nd, rfl⟩⟩))
          go_meet
          case rel => exact ⟨_, (true), rs_, H', ⟨by have := HJ2.out; first | omega | exact Nat.le_refl _⟩, ⟨bl_⟩⟩
        ·replace c22 := Bool.eq_false_iff.mpr c22
         subst c22
         have H1 : (impl_RecordGet.j1 kj2 a0 t294 t302 t305 true) = some (r1, r2, r3) := by rw [if_neg (show ¬ (false = true) by decide)] at H; exact H
         clear H
         have H := H1
         clear H1
         have H' := Aside0.mk H
         clear H
         go_wp2
         go_meet
         case rel => exact ⟨_, (true), rs_, H', ⟨by have := HJ2.out; first | omega | exact Nat.le_refl _⟩, ⟨bl_⟩⟩
       ·replace c21 := Bool.eq_false_iff.mpr c21
        subst c21
        have H1 : (impl_RecordGet.j1 kj2 a0 t294 t302 t305 true) = some (r1, r2, r3) := by rw [if_neg (show ¬ (false = true) by decide)] at H; exact H
        clear H
        have H := H1
        clear H1
        have H' := Aside0.mk H
        clear H
        go_wp2
        go_meet
        case rel => exact ⟨_, (true), rs_, H', ⟨by have := HJ2.out; first | omega | exact Nat.le_refl _⟩, ⟨bl_⟩⟩
      case rest =>
       clear HC17
       try clear c1
       try clear c2
       try clear p2
       try clear q2
       try clear hx2
       try clear qi2
       try clear p3
       try clear q3
       try clear hx3
       try clear qi3
       try clear c4
       try clear c5
       try clear c5b0
       try clear c6
       try clear c6b0
       try clear c6b1
       try clear c7
       try clear c7b0
       try clear c7b1
       try clear c10
       try clear c13
       try clear c13b0
       try clear c13b1
       try clear c15
       try clear c15b0
       try clear c15b1
       try clear c21
       try clear c22
       try clear c24
       try clear hx297_0
       try clear hx301_0
       try clear hx304_0
       try clear p2
       try clear p297
       try clear p301
       try clear p304
       try clear q2
       try clear q297
       try clear q301
       try clear q304
       obtain ⟨kq, x62_16, rfl, HA, HJ16, HB⟩ := hcut
       cases kq with
       | zero => exact absurd HA.out (by simp [impl_RecordGet.j1])
       | succ kj16 =>
        have H := HA.out
        clear HA
        simp only [impl_RecordGet.j1] at H
        by_cases c26 : x62_16 = true
        ·subst c26
         have H1 : (some (0, (([] : List (List ByteArray))), 0)) = some (r1, r2, r3) := by rw [if_pos rfl] at H; exact H
         clear H
         have H := H1
         clear H1
         obtain ⟨y309, hy309⟩ : ∃ y_ : List (List ByteArray), y_ = (([] : List (List ByteArray))) := ⟨_, rfl⟩
         replace H : (some (0, y309, 0)) = some (r1, r2, r3) := by first | (rw [hy309]; with_reducible exact H) | (have H2_ := (Option.bind_some _ _).symm.trans H; rw [hy309]; with_reducible exact H2_) | (have H2_ := (Option.bind_some _ _).symm.trans H; with_reducible exact H2_) | with_reducible exact H | (rw [hy309]; exact H) | exact H
         have Ny309 := Aside0.mk hy309
         clear hy309
         simp only [Option.some.injEq, Prod.mk.injEq] at H
         obtain ⟨rfl, rfl, rfl⟩ := H
         go_wp2_with (first | ((with_reducible refine gate_dst (N := 63) rfl ?_); (try (refine gate_guard (by rfl) ?_; dsimp only)); refine Kd.S_lit (Kd.slice 9 Kd.string) _ 55 ?hg (N := 63) ?hd (xs := ([] : List (List ByteArray))) (inner := []) (ok := fun _ => True) (okp := fun _ => True) ?hr ?hp (fun _ hk => hk) trivial (Below.refl _ _) (Nat.le_refl _) (by simp) ?_; (case hd => rfl); (case hg => rfl); (case hr => first | (go_simp; done) | (go_simp; rfl)); (case hp => exact (Reps.none _ _)); intro v310 w27 ho28 hb hg_ hnew_; clear hg_ hnew_; (first | rw [← Ny309.out] at ho28 | (simp only [Int.reduceToNat] at ho28; rw [← Ny309.out] at ho28)); have n0_ := Aside0.mk (Kd.S_lower ho28 (below_size bl_)); have n1_ := Aside0.mk (below_step bl_ hb); clear HB; have HO311 := n0_; have HB := n1_; clear n0_ n1_; clear hb ho28))
         go_ret3
         exact ⟨_, by first | rfl | (simp [errW_none, errW_some] <;> rfl) | (simp [*, errW_none, errW_some] <;> rfl), by (with_reducible repeat (first | apply Kd.S_alloc | apply Kd.S_drewN | apply Kd.S_drew)); exact HO311.out, bl_⟩
        ·replace c26 := Bool.eq_false_iff.mpr c26
         subst c26
         have H1 : (impl_RecordGet.l0 kj16 a0 t294 t302 (([] : List (List ByteArray))) t305 0) = some (r1, r2, r3) := by rw [if_neg (show ¬ (false = true) by decide)] at H; exact H
         clear H
         have H := H1
         clear H1
         obtain ⟨y312, hy312⟩ : ∃ y_ : List (List ByteArray), y_ = (([] : List (List ByteArray))) := ⟨_, rfl⟩
         replace H : (impl_RecordGet.l0 kj16 a0 t294 t302 y312 t305 0) = some (r1, r2, r3) := by first | (rw [hy312]; with_reducible exact H) | (have H2_ := (Option.bind_some _ _).symm.trans H; rw [hy312]; with_reducible exact H2_) | (have H2_ := (Option.bind_some _ _).symm.trans H; with_reducible exact H2_) | with_reducible exact H | (rw [hy312]; exact H) | exact H
         have Ny312 := Aside0.mk hy312
         clear hy312
         have H' := Aside0.mk H
         clear H
         go_wp2_with (first | ((with_reducible refine gate_dst (N := 64) rfl ?_); (try (refine gate_guard (by rfl) ?_; dsimp only)); refine Kd.S_lit (Kd.slice 9 Kd.string) _ 55 ?hg (N := 64) ?hd (xs := ([] : List (List ByteArray))) (inner := []) (ok := fun _ => True) (okp := fun _ => True) ?hr ?hp (fun _ hk => hk) trivial (Below.refl _ _) (Nat.le_refl _) (by simp) ?_; (case hd => rfl); (case hg => rfl); (case hr => first | (go_simp; done) | (go_simp; rfl)); (case hp => exact (Reps.none _ _)); intro v313 w29 ho30 hb hg_ hnew_; clear hg_ hnew_; (first | rw [← Ny312.out] at ho30 | (simp only [Int.reduceToNat] at ho30; rw [← Ny312.out] at ho30)); have n0_ := Aside0.mk (Kd.S_lower ho30 (below_size bl_)); have n1_ := Aside0.mk (below_step bl_ hb); clear HB; have HO314 := n0_; have HB := n1_; clear n0_ n1_; clear hb ho30))
         go_loopg [6, 11, 66] kj16 (fun kq v6 v11 v66 w' => ∃ (x6_3 : Int) (x11_3 : List (List ByteArray)) (x66_3 : Int), v6 = .int .i64 x6_3 ∧ v66 = .int .i64 x66_3 ∧ Aside0 (impl_RecordGet.l0 kq a0 x6_3 t302 x11_3 t305 x66_3 = some (r1, r2, r3)) ∧ Aside0 (kq ≤ kj16) ∧ Aside0 (Kd.S (Kd.slice 9 Kd.string) 55 w' w.heap.size (fun _ => True) v11 x11_3) ∧ Aside0 (Below w.heap.size w w'))
         case atStart => exact ⟨(t294), (y312), (0), rs_, rs_, H', ⟨Nat.le_refl _⟩, ⟨by (with_reducible repeat (first | apply Kd.S_alloc | apply Kd.S_drewN | apply Kd.S_drew)); exact HO314.out⟩, ⟨bl_⟩⟩
         case round =>
          clear H'
          try clear c1
          try clear c2
          try clear p2
          try clear q2
          try clear hx2
          try clear qi2
          try clear p3
          try clear q3
          try clear hx3
          try clear qi3
          try clear c4
          try clear c5
          try clear c5b0
          try clear c6
          try clear c6b0
          try clear c6b1
          try clear c7
          try clear c7b0
          try clear c7b1
          try clear c10
          try clear c13
          try clear c13b0
          try clear c13b1
          try clear c15
          try clear c15b0
          try clear c15b1
          try clear c21
          try clear c22
          try clear c24
          try clear c26
          try clear p29
          try clear q29
          try clear hx29
          try clear qi29
          try clear p30
          try clear q30
          try clear hx30
          try clear qi30
          try clear hx297_0
          try clear hx301_0
          try clear hx304_0
          try clear p2
          try clear p297
          try clear p3
          try clear p301
          try clear p304
          try clear q2
          try clear q297
          try clear q3
          try clear q301
          try clear q304
          obtain ⟨x6_3, x11_3, x66_3, rfl, rfl, HA, HK3, HO_11, HB⟩ := hrel
          cases gk with
          | zero => exact absurd HA.out (by simp [impl_RecordGet.l0])
          | succ k3 =>
           have H := HA.out
           clear HA
           simp only [impl_RecordGet.l0] at H
           by_cases c31 : x66_3 < t305
           ·rw [if_pos c31] at H
            have c31b0 : decide (x66_3 < t305) = true := decide_eq_true c31
            clear c31
            by_cases c32 : 0 ≤ x6_3
            ·rw [if_pos c32] at H
             have c32b0 := eq_true c32
             have c32b1 : decide (0 ≤ x6_3) = true := decide_eq_true c32
             clear c32
             by_cases c33 : x6_3 ≤ (a0.size : Int)
             ·rw [if_pos c33] at H
              have c33b0 := eq_true c33
              have c33b1 : decide (x6_3 ≤ (a0.size : Int)) = true := decide_eq_true c33
              clear c33
              replace H := Option.bind_eq_some_iff.mp H
              obtain ⟨⟨t315, t316⟩, A340, H⟩ := H
              replace H : (if t316 ≤ 0 then (some (0, (([] : List (List ByteArray))), 0)) else (if x11_3.length < 5864062014805 then (impl_RecordGet.l0 k3 a0 (wrap64 (x6_3 + t316)) t302 (x11_3 ++ [t315]) t305 (wrap64 (x66_3 + 1))) else (none))) = some (r1, r2, r3) := H
              have A34 := Aside0.mk A340
              clear A340
              by_cases c35 : t316 ≤ 0
              ·rw [if_pos c35] at H
               have c35b0 : decide (t316 ≤ 0) = true := decide_eq_true c35
               clear c35
               obtain ⟨y319, hy319⟩ : ∃ y_ : List (List ByteArray), y_ = (([] : List (List ByteArray))) := ⟨_, rfl⟩
               replace H : (some (0, y319, 0)) = some (r1, r2, r3) := by first | (rw [hy319]; with_reducible exact H) | (have H2_ := (Option.bind_some _ _).symm.trans H; rw [hy319]; with_reducible exact H2_) | (have H2_ := (Option.bind_some _ _).symm.trans H; with_reducible exact H2_) | with_reducible exact H | (rw [hy319]; exact H) | exact H
               have Ny319 := Aside0.mk hy319
               clear hy319
               simp only [Option.some.injEq, Prod.mk.injEq] at H
               obtain ⟨rfl, rfl, rfl⟩ := H
               go_wp2_with (first | ((with_reducible refine gate_callee (f := 50) rfl ?_); refine goesL_ (some 72) rfl rfl Tryz.func50 (by kernel_rfl) rfl #[.string (a0.extract (x6_3 : Int).toNat a0.size)] rfl ga_ ?_; (with_reducible refine (impl_OrderGet.calls (a0.extract (x6_3 : Int).toNat a0.size) t315 t316 _ A34.out).mono ?_); rintro e w36 ⟨v317, rfl, ho0, hb⟩; refine ⟨_, rfl, ?_⟩; have n0_ := Aside0.mk (Kd.S_elder' (by (with_reducible repeat (first | apply Kd.S_alloc | apply Kd.S_drewN | apply Kd.S_drew)); exact HO_11.out) (Kd.R_base ho0) hb); have n1_ := Aside0.mk (Kd.R_lower ho0 (below_size bl_)); have n2_ := Aside0.mk (below_step bl_ hb); clear HO_11; clear HB; have HO_11 := n0_; have HO318 := n1_; have HB := n2_; clear n0_ n1_ n2_; (try clear hb); (try clear hb2); (try clear hk); (try clear hi); (try clear ho0)) | ((with_reducible refine gate_dst (N := 77) rfl ?_); (try (refine gate_guard (by rfl) ?_; dsimp only)); refine Kd.S_lit (Kd.slice 9 Kd.string) _ 55 ?hg (N := 77) ?hd (xs := ([] : List (List ByteArray))) (inner := []) (ok := fun _ => True) (okp := fun _ => True) ?hr ?hp (fun _ hk => hk) trivial (Below.refl _ _) (Nat.le_refl _) (by simp) ?_; (case hd => rfl); (case hg => rfl); (case hr => first | (go_simp; done) | (go_simp; rfl)); (case hp => exact (Reps.none _ _)); intro v320 w37 ho38 hb hg_ hnew_; clear hg_ hnew_; (first | rw [← Ny319.out] at ho38 | (simp only [Int.reduceToNat] at ho38; rw [← Ny319.out] at ho38)); have n0_ := Aside0.mk (Kd.S_elder' (by (with_reducible repeat (first | apply Kd.S_alloc | apply Kd.S_drewN | apply Kd.S_drew)); exact HO_11.out) (Kd.S_base ho38) hb); have n1_ := Aside0.mk (Kd.R_below (by (with_reducible repeat (first | apply Kd.R_alloc | apply Kd.R_drewN | apply Kd.R_drew)); exact HO318.out) hb); have n2_ := Aside0.mk (Kd.S_lower (Kd.S_new' (Kd.S_new' ho38 (Kd.S_lt (by (with_reducible repeat (first | apply Kd.S_alloc | apply Kd.S_drewN | apply Kd.S_drew)); exact HO_11.out))) (Kd.R_lt (by (with_reducible repeat (first | apply Kd.R_alloc | apply Kd.R_drewN | apply Kd.R_drew)); exact HO318.out))) (below_size bl_)); have n3_ := Aside0.mk (below_step bl_ hb); clear HO_11; clear HO318; clear HB; have HO_11 := n0_; have HO318 := n1_; have HO321 := n2_; have HB := n3_; clear n0_ n1_ n2_ n3_; clear hb ho38))
               go_ret3
               exact ⟨_, by first | rfl | (simp [errW_none, errW_some] <;> rfl) | (simp [*, errW_none, errW_some] <;> rfl), by (with_reducible repeat (first | apply Kd.S_alloc | apply Kd.S_drewN | apply Kd.S_drew)); exact Kd.S_mono HO321.out (fun _ hk => trivial), bl_⟩
              ·rw [if_neg c35] at H
               have c35b0 : decide (t316 ≤ 0) = false := decide_eq_false c35
               clear c35
               by_cases c39 : x11_3.length < 5864062014805
               ·rw [if_pos c39] at H
                have LMc39 := Aside0.mk c39
                clear c39
                obtain ⟨y322, hy322⟩ : ∃ y_ : List (List ByteArray), y_ = (x11_3 ++ [t315]) := ⟨_, rfl⟩
                replace H : (impl_RecordGet.l0 k3 a0 (wrap64 (x6_3 + t316)) t302 y322 t305 (wrap64 (x66_3 + 1))) = some (r1, r2, r3) := by first | (rw [hy322]; with_reducible exact H) | (have H2_ := (Option.bind_some _ _).symm.trans H; rw [hy322]; with_reducible exact H2_) | (have H2_ := (Option.bind_some _ _).symm.trans H; with_reducible exact H2_) | with_reducible exact H | (rw [hy322]; exact H) | exact H
                have Ny322 := Aside0.mk hy322
                clear hy322
                have H' := Aside0.mk H
                clear H
                go_wp2_with (first | ((with_reducible refine gate_callee (f := 50) rfl ?_); refine goesL_ (some 72) rfl rfl Tryz.func50 (by kernel_rfl) rfl #[.string (a0.extract (x6_3 : Int).toNat a0.size)] rfl ga_ ?_; (with_reducible refine (impl_OrderGet.calls (a0.extract (x6_3 : Int).toNat a0.size) t315 t316 _ A34.out).mono ?_); rintro e w40 ⟨v317, rfl, ho0, hb⟩; refine ⟨_, rfl, ?_⟩; have n0_ := Aside0.mk (Kd.S_elder' (by (with_reducible repeat (first | apply Kd.S_alloc | apply Kd.S_drewN | apply Kd.S_drew)); exact HO_11.out) (Kd.R_base ho0) hb); have n1_ := Aside0.mk (Kd.R_lower ho0 (below_size bl_)); have n2_ := Aside0.mk (below_step bl_ hb); clear HO_11; clear HB; have HO_11 := n0_; have HO318 := n1_; have HB := n2_; clear n0_ n1_ n2_; (try clear hb); (try clear hb2); (try clear hk); (try clear hi); (try clear ho0); obtain ⟨Ao42, co42, eo42⟩ := Kd.R_slice HO318.out; subst eo42) | ((with_reducible refine gate_builtin (b := .append) (xs := #[.tmp 78, .tmp 80]) rfl ?_); (try (refine gate_guard (by rfl) ?_; dsimp only)); at_builtin; refine Kd.S_append (Kd.slice 9 Kd.string) (w0 := w) w.heap.size rfl (.tmp 78) (.tmp 80) 54 55 (.slice none 0 0) 24 rfl Tryz.underlying54 info55 rfl (by decide) (by omega) u11 x11_3 t315 [.slice Ao42 t315.length co42] (fun _ => True) (fun k_ => some k_ = (.slice Ao42 t315.length co42 : Value).ownBlock) rfl rfl ?aP (fun k_ hk_ => ((Kd.R_mono (ok' := fun k_ => ((fun _ => True)) k_ ∧ some k_ ≠ (u11 : Value).ownBlock) (Kd.R_apart' (HO318.out) (Kd.S_typed HO_11.out) (by decide)) (fun k_ hk => ⟨trivial, hk.2⟩))).1 k_ hk_.symm) ?aF ?aO ?aB ?aS ?aL ?_; (case aP => exact Kd.M_row (Kd.R_mono (Kd.R_tight rfl (Kd.R_mono (ok' := fun k_ => ((fun _ => True)) k_ ∧ some k_ ≠ (u11 : Value).ownBlock) (Kd.R_apart' (HO318.out) (Kd.S_typed HO_11.out) (by decide)) (fun k_ hk => ⟨trivial, hk.2⟩))) (fun _ h_ => h_))); (case aB => exact bl_); (case aF => exact (fun _ _ => trivial)); (case aO => exact (by (with_reducible repeat (first | apply Kd.S_alloc | apply Kd.S_drewN | apply Kd.S_drew)); exact Kd.S_mono HO_11.out (fun k_ hk => ⟨trivial, fun e_ => hk.2 e_⟩))); (case aS => exact (below_size bl_)); (case aL => have := LMc39.out; omega); intro v323 w41 ho hb hg hat; rw [← Ny322.out] at ho; have n0_ := Aside0.mk (hb); have n1_ := Aside0.mk (ho); clear HB; clear HO_11; clear HO318; have HB := n0_; have HO324 := n1_; clear n0_ n1_; clear ho hb hg hat))
                go_roundg k3
                case measure => have := HJ2.out; have := HJ16.out; have := HK3.out; omega
                case rel => exact ⟨(wrap64 (x6_3 + t316)), (y322), (wrap64 (x66_3 + 1)), rs_, rs_, H', ⟨by have := HJ2.out; have := HJ16.out; have := HK3.out; omega⟩, ⟨by (with_reducible repeat (first | apply Kd.S_alloc | apply Kd.S_drewN | apply Kd.S_drew)); exact HO324.out⟩, ⟨bl_⟩⟩
               ·rw [if_neg c39] at H
                exact absurd H (by simp)
             ·rw [if_neg c33] at H
              exact absurd H (by simp)
            ·rw [if_neg c32] at H
             exact absurd H (by simp)
           ·rw [if_neg c31] at H
            have c31b0 : decide (x66_3 < t305) = false := decide_eq_false c31
            clear c31
            simp only [Option.some.injEq, Prod.mk.injEq] at H
            obtain ⟨rfl, rfl, rfl⟩ := H
            go_wp2
            go_ret3
            exact ⟨_, by first | rfl | (simp [errW_none, errW_some] <;> rfl) | (simp [*, errW_none, errW_some] <;> rfl), by (with_reducible repeat (first | apply Kd.S_alloc | apply Kd.S_drewN | apply Kd.S_drew)); exact HO_11.out, bl_⟩
     ·rw [if_neg c15] at H
      exact absurd H (by simp)
    ·rw [if_neg c13] at H
     exact absurd H (by simp)

/-! ### impl_Do: function 41 -/
def impl_Do.f (a0_0 : Int) (l0_1 : List (S67)) (l1 : List ByteArray) : Option (Int × (List (S67)) × Int × Int × ByteArray × List ByteArray × (List (S83))) := none
theorem impl_Do.calls (a0_0 : Int) (A0_1 : Option Addr) (c0_1 : Nat) (l0_1 : List (S67)) (A1 : Option Addr) (c1 : Nat) (l1 : List ByteArray) (r1 : Int) (r2 : List (S67)) (r3 : Int) (r4 : Int) (r5 : ByteArray) (r6 : List ByteArray) (r7 : List (S83)) (w : World) (hr0_1 : Kd.C k67 w A0_1 l0_1.length l0_1) (hc0_1 : l0_1.length ≤ c0_1) (hr1 : Kd.C Kd.string w A1 l1.length l1) (hc1 : l1.length ≤ c1) (h : impl_Do.f a0_0 l0_1 l1 = some (r1, r2, r3, r4, r5, r6, r7)) :
  Calls Tryz.prog 41 #[.agg #[.int .i64 a0_0, .slice A0_1 l0_1.length c0_1], .slice A1 l1.length c1] w fun e w' => ∃ v1_ v5_ v6_ : Value, e = .returned (.tuple #[.agg #[.int .i64 r1, v1_], .agg #[.int .i64 r3, .int .i64 r4, .string r5, v5_, v6_]]) ∧ Kd.S k67 67 w' w.heap.size (fun k_ => some k_ ≠ (v5_ : Value).ownBlock) v1_ r2 ∧ Kd.R Kd.string 9 w' w.heap.size (fun _ => True) v5_ r6 ∧ Kd.R k83 83 w' w.heap.size (fun k_ => some k_ ≠ (v5_ : Value).ownBlock) v6_ r7 ∧ Below w.heap.size w w' := by
 cases h

end Go.Proofs.YtkgomifdmpkaeaaGreatDoor.Ldn
