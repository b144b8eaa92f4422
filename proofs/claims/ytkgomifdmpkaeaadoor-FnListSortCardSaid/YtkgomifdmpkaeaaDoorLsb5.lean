/- Contracts of functions of the program: each call returns what the plain function '.f' of that name says, wherever it says something. -/
import Derived.Test.YtkgomifdmpkaeaaDoorLsb0
import Derived.Test.YtkgomifdmpkaeaaDoorLsb2
import Derived.Test.YtkgomifdmpkaeaaDoorLsb4
namespace Go.Proofs.YtkgomifdmpkaeaaDoor.Lsb
open Go.Proofs.YtkgomifdmpkaeaaDoor
open Go.RowKit Go.Proofs.YtkgomifdmpkaeaaDoorW.PrintWords Go.Proofs.YtkgomifdmpkaeaaDoorW.PrintLast Go.Proofs.YtkgomifdmpkaeaaDoorW.PrintMore
attribute [local go_sem] max2_int min2_int max_two min_two max_three min_three max_four min_four   -- for this text's walks alone
set_option linter.unusedVariables false
set_option linter.unusedSimpArgs false

/-! ### laws_FnListSort: function 5 -/
mutual
def laws_FnListSort.j0 : Nat → List ByteArray → Bool → Bool → List ByteArray → Bool → List ByteArray → Bool → Bool → Option (Bool)
 | 0, _, _, _, _, _, _, _, _ => none
 | k + 1, x3, x4, x5, x6, x7, x8, x9, x56 => if x56 = true then (if (x7 == x9) = true then ((laws_qxTexts.f k x6 x8).bind fun t283 => (some t283)) else (some false)) else ((impl_ListSort.f x3 x4 (!x5)).bind fun bt284 => ((impl_ListSort.f x6 x4 x5).bind fun bt288 => (laws_FnListSort.l0 k x3 x4 x5 x6 bt284.1 bt284.2 bt288.1 bt288.2 0)))
def laws_FnListSort.l0 : Nat → List ByteArray → Bool → Bool → List ByteArray → List ByteArray → Bool → List ByteArray → Bool → Int → Option (Bool)
 | 0, _, _, _, _, _, _, _, _, _ => none
 | k + 1, x3, x4, x5, x6, x10, x11, x12, x13, x14 => if x14 < (x6.length : Int) then (laws_FnListSort.l1 k x3 x4 x5 x6 x10 x11 x12 x13 x14 0 0 0) else (if x11 = true then (if x13 = true then ((laws_qxTexts.f k x12 x6).bind fun t292 => (if t292 = true then (some ((x6.length : Int) == (x3.length : Int))) else (some false))) else (some false)) else (some false))
def laws_FnListSort.l1 : Nat → List ByteArray → Bool → Bool → List ByteArray → List ByteArray → Bool → List ByteArray → Bool → Int → Int → Int → Int → Option (Bool)
 | 0, _, _, _, _, _, _, _, _, _, _, _, _ => none
 | k + 1, x3, x4, x5, x6, x10, x11, x12, x13, x14, x15, x16, x17 => if x17 < (x6.length : Int) then (if 0 ≤ x17 then (if 0 ≤ x14 then (if x14 < (x6.length : Int) then (if (rdOf ByteArray.empty x6 x17).toList = (rdOf ByteArray.empty x6 x14).toList then (laws_FnListSort.j3 k x3 x4 x5 x6 x10 x11 x12 x13 x14 (wrap64 (x15 + 1)) x16 x17) else (laws_FnListSort.j3 k x3 x4 x5 x6 x10 x11 x12 x13 x14 x15 x16 x17)) else (none)) else (none)) else (none)) else (if 0 ≤ x14 then (if x14 < (x6.length : Int) then ((impl_IntGet.f (rdOf ByteArray.empty x6 x14)).bind fun bt298 => (if x14 > 0 then (if 0 ≤ (wrap64 (x14 - 1)) then (if (wrap64 (x14 - 1)) < (x6.length : Int) then ((impl_IntGet.f (rdOf ByteArray.empty x6 (wrap64 (x14 - 1)))).bind fun bt301 => (laws_FnListSort.j4 k x3 x4 x5 x6 x10 x11 x12 x13 x14 x15 x16 bt298.1 bt301.1)) else (none)) else (none)) else (laws_FnListSort.j4 k x3 x4 x5 x6 x10 x11 x12 x13 x14 x15 x16 bt298.1 bt298.1))) else (none)) else (none))
def laws_FnListSort.j3 : Nat → List ByteArray → Bool → Bool → List ByteArray → List ByteArray → Bool → List ByteArray → Bool → Int → Int → Int → Int → Option (Bool)
 | 0, _, _, _, _, _, _, _, _, _, _, _, _ => none
 | k + 1, x3, x4, x5, x6, x10, x11, x12, x13, x14, x15, x16, x17 => if 0 ≤ x17 then (if x17 < (x3.length : Int) then (if 0 ≤ x14 then (if x14 < (x6.length : Int) then (if (rdOf ByteArray.empty x3 x17).toList = (rdOf ByteArray.empty x6 x14).toList then (laws_FnListSort.l1 k x3 x4 x5 x6 x10 x11 x12 x13 x14 x15 (wrap64 (x16 + 1)) (wrap64 (x17 + 1))) else (laws_FnListSort.l1 k x3 x4 x5 x6 x10 x11 x12 x13 x14 x15 x16 (wrap64 (x17 + 1)))) else (none)) else (none)) else (none)) else (none)
def laws_FnListSort.j4 : Nat → List ByteArray → Bool → Bool → List ByteArray → List ByteArray → Bool → List ByteArray → Bool → Int → Int → Int → Int → Int → Option (Bool)
 | 0, _, _, _, _, _, _, _, _, _, _, _, _, _ => none
 | k + 1, x3, x4, x5, x6, x10, x11, x12, x13, x14, x15, x16, x18, x20 => if x15 = x16 then (if 0 ≤ x14 then (if x14 < (x6.length : Int) then (if 0 ≤ (wrap64 ((wrap64 ((x10.length : Int) - 1)) - x14)) then (if (wrap64 ((wrap64 ((x10.length : Int) - 1)) - x14)) < (x10.length : Int) then (if (rdOf ByteArray.empty x6 x14).toList = (rdOf ByteArray.empty x10 (wrap64 ((wrap64 ((x10.length : Int) - 1)) - x14))).toList then (if x4 = true then (if x5 = true then (if x20 < x18 then (laws_FnListSort.j5 k x3 x4 x5 x6 x10 x11 x12 x13 x14 true) else (laws_FnListSort.j5 k x3 x4 x5 x6 x10 x11 x12 x13 x14 false)) else (if x20 > x18 then (laws_FnListSort.j5 k x3 x4 x5 x6 x10 x11 x12 x13 x14 true) else (laws_FnListSort.j5 k x3 x4 x5 x6 x10 x11 x12 x13 x14 false))) else (if x14 > 0 then (if x5 = true then (if 0 ≤ (wrap64 (x14 - 1)) then (if (wrap64 (x14 - 1)) < (x6.length : Int) then (if (Op.bytesLess ((rdOf ByteArray.empty x6 (wrap64 (x14 - 1))).toList) ((rdOf ByteArray.empty x6 x14).toList)) = true then (laws_FnListSort.j5 k x3 x4 x5 x6 x10 x11 x12 x13 x14 true) else (laws_FnListSort.j5 k x3 x4 x5 x6 x10 x11 x12 x13 x14 false)) else (none)) else (none)) else (if 0 ≤ (wrap64 (x14 - 1)) then (if (wrap64 (x14 - 1)) < (x6.length : Int) then (laws_FnListSort.j5 k x3 x4 x5 x6 x10 x11 x12 x13 x14 (Op.bytesLess ((rdOf ByteArray.empty x6 x14).toList) ((rdOf ByteArray.empty x6 (wrap64 (x14 - 1))).toList))) else (none)) else (none))) else (laws_FnListSort.j5 k x3 x4 x5 x6 x10 x11 x12 x13 x14 false))) else (laws_FnListSort.j5 k x3 x4 x5 x6 x10 x11 x12 x13 x14 true)) else (none)) else (none)) else (none)) else (none)) else (laws_FnListSort.j5 k x3 x4 x5 x6 x10 x11 x12 x13 x14 true)
def laws_FnListSort.j5 : Nat → List ByteArray → Bool → Bool → List ByteArray → List ByteArray → Bool → List ByteArray → Bool → Int → Bool → Option (Bool)
 | 0, _, _, _, _, _, _, _, _, _, _ => none
 | k + 1, x3, x4, x5, x6, x10, x11, x12, x13, x14, x210 => if x210 = true then (some false) else (laws_FnListSort.l0 k x3 x4 x5 x6 x10 x11 x12 x13 (wrap64 (x14 + 1)))
end
def laws_FnListSort.f (k : Nat) (l0 : List Int) : Option (Bool) := if (l0.length : Int) > 1048576 then (some true) else ((spec_DrawListSort.f k l0).bind fun bt269 => ((impl_ListSort.f bt269.1 bt269.2.1 bt269.2.2).bind fun bt274 => ((spec_ListSort.f k bt269.1 bt269.2.1 bt269.2.2).bind fun bt278 => (if (bt274.2 != bt278.2) = true then (laws_FnListSort.j0 k bt269.1 bt269.2.1 bt269.2.2 bt274.1 bt274.2 bt278.1 bt278.2 true) else ((laws_qxTexts.f k bt274.1 bt278.1).bind fun t282 => (if t282 = true then (laws_FnListSort.j0 k bt269.1 bt269.2.1 bt269.2.2 bt274.1 bt274.2 bt278.1 bt278.2 (!bt274.2)) else (laws_FnListSort.j0 k bt269.1 bt269.2.1 bt269.2.2 bt274.1 bt274.2 bt278.1 bt278.2 true)))))))
theorem laws_FnListSort.mono_l : ∀ k, (∀ y0 y1 y2 y3 y4 y5 y6 y7, LeO (laws_FnListSort.j0 k y0 y1 y2 y3 y4 y5 y6 y7) (laws_FnListSort.j0 (k + 1) y0 y1 y2 y3 y4 y5 y6 y7)) ∧ (∀ y0 y1 y2 y3 y4 y5 y6 y7 y8, LeO (laws_FnListSort.l0 k y0 y1 y2 y3 y4 y5 y6 y7 y8) (laws_FnListSort.l0 (k + 1) y0 y1 y2 y3 y4 y5 y6 y7 y8)) ∧ (∀ y0 y1 y2 y3 y4 y5 y6 y7 y8 y9 y10 y11, LeO (laws_FnListSort.l1 k y0 y1 y2 y3 y4 y5 y6 y7 y8 y9 y10 y11) (laws_FnListSort.l1 (k + 1) y0 y1 y2 y3 y4 y5 y6 y7 y8 y9 y10 y11)) ∧ (∀ y0 y1 y2 y3 y4 y5 y6 y7 y8 y9 y10 y11, LeO (laws_FnListSort.j3 k y0 y1 y2 y3 y4 y5 y6 y7 y8 y9 y10 y11) (laws_FnListSort.j3 (k + 1) y0 y1 y2 y3 y4 y5 y6 y7 y8 y9 y10 y11)) ∧ (∀ y0 y1 y2 y3 y4 y5 y6 y7 y8 y9 y10 y11 y12, LeO (laws_FnListSort.j4 k y0 y1 y2 y3 y4 y5 y6 y7 y8 y9 y10 y11 y12) (laws_FnListSort.j4 (k + 1) y0 y1 y2 y3 y4 y5 y6 y7 y8 y9 y10 y11 y12)) ∧ (∀ y0 y1 y2 y3 y4 y5 y6 y7 y8 y9, LeO (laws_FnListSort.j5 k y0 y1 y2 y3 y4 y5 y6 y7 y8 y9) (laws_FnListSort.j5 (k + 1) y0 y1 y2 y3 y4 y5 y6 y7 y8 y9))
 | 0 => ⟨fun _ _ _ _ _ _ _ _ r h => by simp [laws_FnListSort.j0] at h, fun _ _ _ _ _ _ _ _ _ r h => by simp [laws_FnListSort.l0] at h, fun _ _ _ _ _ _ _ _ _ _ _ _ r h => by simp [laws_FnListSort.l1] at h, fun _ _ _ _ _ _ _ _ _ _ _ _ r h => by simp [laws_FnListSort.j3] at h, fun _ _ _ _ _ _ _ _ _ _ _ _ _ r h => by simp [laws_FnListSort.j4] at h, fun _ _ _ _ _ _ _ _ _ _ r h => by simp [laws_FnListSort.j5] at h⟩
 | k + 1 => by
  obtain ⟨ih0, ih1, ih2, ih3, ih4, ih5⟩ := laws_FnListSort.mono_l k
  refine ⟨?_, ?_, ?_, ?_, ?_, ?_⟩
  ·intro y0 y1 y2 y3 y4 y5 y6 y7
   unfold laws_FnListSort.j0
   repeat' first
   | (with_reducible exact ih0 _ _ _ _ _ _ _ _)
   | (with_reducible exact ih1 _ _ _ _ _ _ _ _ _)
   | (with_reducible exact ih2 _ _ _ _ _ _ _ _ _ _ _ _)
   | (with_reducible exact ih3 _ _ _ _ _ _ _ _ _ _ _ _)
   | (with_reducible exact ih4 _ _ _ _ _ _ _ _ _ _ _ _ _)
   | (with_reducible exact ih5 _ _ _ _ _ _ _ _ _ _)
   | (with_reducible exact laws_qxTexts.mono _ _ _)
   | (with_reducible exact spec_DrawListSort.mono _ _)
   | (with_reducible exact spec_ListSort.mono _ _ _ _)
   | (with_reducible exact LeO.refl _)
   | (with_reducible exact LeO.none _)
   | (with_reducible refine LeO.ite ?_ ?_)
   | (with_reducible refine LeO.bind ?_ (fun _ => ?_))
   | exact ih0 _ _ _ _ _ _ _ _
   | exact ih1 _ _ _ _ _ _ _ _ _
   | exact ih2 _ _ _ _ _ _ _ _ _ _ _ _
   | exact ih3 _ _ _ _ _ _ _ _ _ _ _ _
   | exact ih4 _ _ _ _ _ _ _ _ _ _ _ _ _
   | exact ih5 _ _ _ _ _ _ _ _ _ _
   | exact laws_qxTexts.mono _ _ _
   | exact spec_DrawListSort.mono _ _
   | exact spec_ListSort.mono _ _ _ _
   | exact LeO.none _
   | refine LeO.ite ?_ ?_
   | refine LeO.bind ?_ (fun _ => ?_)
  ·intro y0 y1 y2 y3 y4 y5 y6 y7 y8
   unfold laws_FnListSort.l0
   repeat' first
   | (with_reducible exact ih0 _ _ _ _ _ _ _ _)
   | (with_reducible exact ih1 _ _ _ _ _ _ _ _ _)
   | (with_reducible exact ih2 _ _ _ _ _ _ _ _ _ _ _ _)
   | (with_reducible exact ih3 _ _ _ _ _ _ _ _ _ _ _ _)
   | (with_reducible exact ih4 _ _ _ _ _ _ _ _ _ _ _ _ _)
   | (with_reducible exact ih5 _ _ _ _ _ _ _ _ _ _)
   | (with_reducible exact laws_qxTexts.mono _ _ _)
   | (with_reducible exact spec_DrawListSort.mono _ _)
   | (with_reducible exact spec_ListSort.mono _ _ _ _)
   | (with_reducible exact LeO.refl _)
   | (with_reducible exact LeO.none _)
   | (with_reducible refine LeO.ite ?_ ?_)
   | (with_reducible refine LeO.bind ?_ (fun _ => ?_))
   | exact ih0 _ _ _ _ _ _ _ _
   | exact ih1 _ _ _ _ _ _ _ _ _
   | exact ih2 _ _ _ _ _ _ _ _ _ _ _ _
   | exact ih3 _ _ _ _ _ _ _ _ _ _ _ _
   | exact ih4 _ _ _ _ _ _ _ _ _ _ _ _ _
   | exact ih5 _ _ _ _ _ _ _ _ _ _
   | exact laws_qxTexts.mono _ _ _
   | exact spec_DrawListSort.mono _ _
   | exact spec_ListSort.mono _ _ _ _
   | exact LeO.none _
   | refine LeO.ite ?_ ?_
   | refine LeO.bind ?_ (fun _ => ?_)
  ·intro y0 y1 y2 y3 y4 y5 y6 y7 y8 y9 y10 y11
   unfold laws_FnListSort.l1
   repeat' first
   | (with_reducible exact ih0 _ _ _ _ _ _ _ _)
   | (with_reducible exact ih1 _ _ _ _ _ _ _ _ _)
   | (with_reducible exact ih2 _ _ _ _ _ _ _ _ _ _ _ _)
   | (with_reducible exact ih3 _ _ _ _ _ _ _ _ _ _ _ _)
   | (with_reducible exact ih4 _ _ _ _ _ _ _ _ _ _ _ _ _)
   | (with_reducible exact ih5 _ _ _ _ _ _ _ _ _ _)
   | (with_reducible exact laws_qxTexts.mono _ _ _)
   | (with_reducible exact spec_DrawListSort.mono _ _)
   | (with_reducible exact spec_ListSort.mono _ _ _ _)
   | (with_reducible exact LeO.refl _)
   | (with_reducible exact LeO.none _)
   | (with_reducible refine LeO.ite ?_ ?_)
   | (with_reducible refine LeO.bind ?_ (fun _ => ?_))
   | exact ih0 _ _ _ _ _ _ _ _
   | exact ih1 _ _ _ _ _ _ _ _ _
   | exact ih2 _ _ _ _ _ _ _ _ _ _ _ _
   | exact ih3 _ _ _ _ _ _ _ _ _ _ _ _
   | exact ih4 _ _ _ _ _ _ _ _ _ _ _ _ _
   | exact ih5 _ _ _ _ _ _ _ _ _ _
   | exact laws_qxTexts.mono _ _ _
   | exact spec_DrawListSort.mono _ _
   | exact spec_ListSort.mono _ _ _ _
   | exact LeO.none _
   | refine LeO.ite ?_ ?_
   | refine LeO.bind ?_ (fun _ => ?_)
  ·intro y0 y1 y2 y3 y4 y5 y6 y7 y8 y9 y10 y11
   unfold laws_FnListSort.j3
   repeat' first
   | (with_reducible exact ih0 _ _ _ _ _ _ _ _)
   | (with_reducible exact ih1 _ _ _ _ _ _ _ _ _)
   | (with_reducible exact ih2 _ _ _ _ _ _ _ _ _ _ _ _)
   | (with_reducible exact ih3 _ _ _ _ _ _ _ _ _ _ _ _)
   | (with_reducible exact ih4 _ _ _ _ _ _ _ _ _ _ _ _ _)
   | (with_reducible exact ih5 _ _ _ _ _ _ _ _ _ _)
   | (with_reducible exact laws_qxTexts.mono _ _ _)
   | (with_reducible exact spec_DrawListSort.mono _ _)
   | (with_reducible exact spec_ListSort.mono _ _ _ _)
   | (with_reducible exact LeO.refl _)
   | (with_reducible exact LeO.none _)
   | (with_reducible refine LeO.ite ?_ ?_)
   | (with_reducible refine LeO.bind ?_ (fun _ => ?_))
   | exact ih0 _ _ _ _ _ _ _ _
   | exact ih1 _ _ _ _ _ _ _ _ _
   | exact ih2 _ _ _ _ _ _ _ _ _ _ _ _
   | exact ih3 _ _ _ _ _ _ _ _ _ _ _ _
   | exact ih4 _ _ _ _ _ _ _ _ _ _ _ _ _
   | exact ih5 _ _ _ _ _ _ _ _ _ _
   | exact laws_qxTexts.mono _ _ _
   | exact spec_DrawListSort.mono _ _
   | exact spec_ListSort.mono _ _ _ _
   | exact LeO.none _
   | refine LeO.ite ?_ ?_
   | refine LeO.bind ?_ (fun _ => ?_)
  ·intro y0 y1 y2 y3 y4 y5 y6 y7 y8 y9 y10 y11 y12
   unfold laws_FnListSort.j4
   repeat' first
   | (with_reducible exact ih0 _ _ _ _ _ _ _ _)
   | (with_reducible exact ih1 _ _ _ _ _ _ _ _ _)
   | (with_reducible exact ih2 _ _ _ _ _ _ _ _ _ _ _ _)
   | (with_reducible exact ih3 _ _ _ _ _ _ _ _ _ _ _ _)
   | (with_reducible exact ih4 _ _ _ _ _ _ _ _ _ _ _ _ _)
   | (with_reducible exact ih5 _ _ _ _ _ _ _ _ _ _)
   | (with_reducible exact laws_qxTexts.mono _ _ _)
   | (with_reducible exact spec_DrawListSort.mono _ _)
   | (with_reducible exact spec_ListSort.mono _ _ _ _)
   | (with_reducible exact LeO.refl _)
   | (with_reducible exact LeO.none _)
   | (with_reducible refine LeO.ite ?_ ?_)
   | (with_reducible refine LeO.bind ?_ (fun _ => ?_))
   | exact ih0 _ _ _ _ _ _ _ _
   | exact ih1 _ _ _ _ _ _ _ _ _
   | exact ih2 _ _ _ _ _ _ _ _ _ _ _ _
   | exact ih3 _ _ _ _ _ _ _ _ _ _ _ _
   | exact ih4 _ _ _ _ _ _ _ _ _ _ _ _ _
   | exact ih5 _ _ _ _ _ _ _ _ _ _
   | exact laws_qxTexts.mono _ _ _
   | exact spec_DrawListSort.mono _ _
   | exact spec_ListSort.mono _ _ _ _
   | exact LeO.none _
   | refine LeO.ite ?_ ?_
   | refine LeO.bind ?_ (fun _ => ?_)
  ·intro y0 y1 y2 y3 y4 y5 y6 y7 y8 y9
   unfold laws_FnListSort.j5
   repeat' first
   | (with_reducible exact ih0 _ _ _ _ _ _ _ _)
   | (with_reducible exact ih1 _ _ _ _ _ _ _ _ _)
   | (with_reducible exact ih2 _ _ _ _ _ _ _ _ _ _ _ _)
   | (with_reducible exact ih3 _ _ _ _ _ _ _ _ _ _ _ _)
   | (with_reducible exact ih4 _ _ _ _ _ _ _ _ _ _ _ _ _)
   | (with_reducible exact ih5 _ _ _ _ _ _ _ _ _ _)
   | (with_reducible exact laws_qxTexts.mono _ _ _)
   | (with_reducible exact spec_DrawListSort.mono _ _)
   | (with_reducible exact spec_ListSort.mono _ _ _ _)
   | (with_reducible exact LeO.refl _)
   | (with_reducible exact LeO.none _)
   | (with_reducible refine LeO.ite ?_ ?_)
   | (with_reducible refine LeO.bind ?_ (fun _ => ?_))
   | exact ih0 _ _ _ _ _ _ _ _
   | exact ih1 _ _ _ _ _ _ _ _ _
   | exact ih2 _ _ _ _ _ _ _ _ _ _ _ _
   | exact ih3 _ _ _ _ _ _ _ _ _ _ _ _
   | exact ih4 _ _ _ _ _ _ _ _ _ _ _ _ _
   | exact ih5 _ _ _ _ _ _ _ _ _ _
   | exact laws_qxTexts.mono _ _ _
   | exact spec_DrawListSort.mono _ _
   | exact spec_ListSort.mono _ _ _ _
   | exact LeO.none _
   | refine LeO.ite ?_ ?_
   | refine LeO.bind ?_ (fun _ => ?_)
theorem laws_FnListSort.mono : ∀ a0 k, LeO (laws_FnListSort.f k a0) (laws_FnListSort.f (k + 1) a0) := by
 intro a0 k
 obtain ⟨ih0, ih1, ih2, ih3, ih4, ih5⟩ := laws_FnListSort.mono_l k
 unfold laws_FnListSort.f
 repeat' first
   | (with_reducible exact ih0 _ _ _ _ _ _ _ _)
   | (with_reducible exact ih1 _ _ _ _ _ _ _ _ _)
   | (with_reducible exact ih2 _ _ _ _ _ _ _ _ _ _ _ _)
   | (with_reducible exact ih3 _ _ _ _ _ _ _ _ _ _ _ _)
   | (with_reducible exact ih4 _ _ _ _ _ _ _ _ _ _ _ _ _)
   | (with_reducible exact ih5 _ _ _ _ _ _ _ _ _ _)
   | (with_reducible exact laws_qxTexts.mono _ _ _)
   | (with_reducible exact spec_DrawListSort.mono _ _)
   | (with_reducible exact spec_ListSort.mono _ _ _ _)
   | (with_reducible exact LeO.refl _)
   | (with_reducible exact LeO.none _)
   | (with_reducible refine LeO.ite ?_ ?_)
   | (with_reducible refine LeO.bind ?_ (fun _ => ?_))
   | exact ih0 _ _ _ _ _ _ _ _
   | exact ih1 _ _ _ _ _ _ _ _ _
   | exact ih2 _ _ _ _ _ _ _ _ _ _ _ _
   | exact ih3 _ _ _ _ _ _ _ _ _ _ _ _
   | exact ih4 _ _ _ _ _ _ _ _ _ _ _ _ _
   | exact ih5 _ _ _ _ _ _ _ _ _ _
   | exact laws_qxTexts.mono _ _ _
   | exact spec_DrawListSort.mono _ _
   | exact spec_ListSort.mono _ _ _ _
   | exact LeO.none _
   | refine LeO.ite ?_ ?_
   | refine LeO.bind ?_ (fun _ => ?_)
set_option maxHeartbeats 40000000 in
set_option maxRecDepth 100000 in
theorem laws_FnListSort.calls (k : Nat) (A0 : Option Addr) (c0 : Nat) (l0 : List Int) (r : Bool) (w : World) (hr0 : Kd.C (Kd.int .u8) w A0 l0.length l0) (hc0 : l0.length ≤ c0) (hG : Glob w) (h : laws_FnListSort.f k l0 = some r) :
  Calls Tryd.prog 5 #[.slice A0 l0.length c0] w fun e w' => e = .returned (.bool r) ∧ Below w.heap.size w w' := by
 have HR0 := Aside0.mk hr0
 have HC0 := Aside0.mk hc0
 clear hr0 hc0
 have HB := Aside0.mk (Below.refl w.heap.size w)
 have HG := Aside0.mk hG
 clear hG
 have H : (if (l0.length : Int) > 1048576 then (some true) else ((spec_DrawListSort.f k l0).bind fun bt269 => ((impl_ListSort.f bt269.1 bt269.2.1 bt269.2.2).bind fun bt274 => ((spec_ListSort.f k bt269.1 bt269.2.1 bt269.2.2).bind fun bt278 => (if (bt274.2 != bt278.2) = true then (laws_FnListSort.j0 k bt269.1 bt269.2.1 bt269.2.2 bt274.1 bt274.2 bt278.1 bt278.2 true) else ((laws_qxTexts.f k bt274.1 bt278.1).bind fun t282 => (if t282 = true then (laws_FnListSort.j0 k bt269.1 bt269.2.1 bt269.2.2 bt274.1 bt274.2 bt278.1 bt278.2 (!bt274.2)) else (laws_FnListSort.j0 k bt269.1 bt269.2.1 bt269.2.2 bt274.1 bt274.2 bt278.1 bt278.2 true)))))))) = some r := h
 clear h
 by_cases c2 : (l0.length : Int) > 1048576
 ·rw [if_pos c2] at H
  have c2b0 : decide (1048576 < (l0.length : Int)) = true := decide_eq_true c2
  have c2b1 : decide (1048576 < l0.length) = true := decide_eq_true (by omega)
  clear c2
  obtain rfl := Option.some.inj H
  go_enter Tryd.func5, Tryd.ntmps5
  try simp only [List.append_eq, List.cons_append, List.nil_append]
  go_wp2
  repeat (go_quiet (fail); try go_wp2)
  go_ret
  exact ⟨re_, bl_⟩
 ·rw [if_neg c2] at H
  have c2b0 : decide (1048576 < (l0.length : Int)) = false := decide_eq_false c2
  have c2b1 : decide (1048576 < l0.length) = false := decide_eq_false (by omega)
  clear c2
  replace H := Option.bind_eq_some_iff.mp H
  obtain ⟨⟨t269, t270, t271⟩, A30, H⟩ := H
  replace H : ((impl_ListSort.f t269 t270 t271).bind fun bt274 => ((spec_ListSort.f k t269 t270 t271).bind fun bt278 => (if (bt274.2 != bt278.2) = true then (laws_FnListSort.j0 k t269 t270 t271 bt274.1 bt274.2 bt278.1 bt278.2 true) else ((laws_qxTexts.f k bt274.1 bt278.1).bind fun t282 => (if t282 = true then (laws_FnListSort.j0 k t269 t270 t271 bt274.1 bt274.2 bt278.1 bt278.2 (!bt274.2)) else (laws_FnListSort.j0 k t269 t270 t271 bt274.1 bt274.2 bt278.1 bt278.2 true)))))) = some r := H
  have A3 := Aside0.mk A30
  clear A30
  replace H := Option.bind_eq_some_iff.mp H
  obtain ⟨⟨t274, t275⟩, A40, H⟩ := H
  replace H : ((spec_ListSort.f k t269 t270 t271).bind fun bt278 => (if (t275 != bt278.2) = true then (laws_FnListSort.j0 k t269 t270 t271 t274 t275 bt278.1 bt278.2 true) else ((laws_qxTexts.f k t274 bt278.1).bind fun t282 => (if t282 = true then (laws_FnListSort.j0 k t269 t270 t271 t274 t275 bt278.1 bt278.2 (!t275)) else (laws_FnListSort.j0 k t269 t270 t271 t274 t275 bt278.1 bt278.2 true))))) = some r := H
  have A4 := Aside0.mk A40
  clear A40
  replace H := Option.bind_eq_some_iff.mp H
  obtain ⟨⟨t278, t279⟩, A50, H⟩ := H
  replace H : (if (t275 != t279) = true then (laws_FnListSort.j0 k t269 t270 t271 t274 t275 t278 t279 true) else ((laws_qxTexts.f k t274 t278).bind fun t282 => (if t282 = true then (laws_FnListSort.j0 k t269 t270 t271 t274 t275 t278 t279 (!t275)) else (laws_FnListSort.j0 k t269 t270 t271 t274 t275 t278 t279 true)))) = some r := H
  have A5 := Aside0.mk A50
  clear A50
  have HC6 := Aside0.mk H
  clear H
  go_enter Tryd.func5, Tryd.ntmps5
  try simp only [List.append_eq, List.cons_append, List.nil_append]
  go_upto_region 6 with (first | (go_at_call 21; (with_reducible refine (spec_DrawListSort.calls k _ _ l0 t269 t270 t271 _ ?side1 ?side2 A3.out).mono ?_); (case side1 => repeat (first | exact HR0.out | (with_reducible refine Kd.C_alloc ?_ _) | (with_reducible refine Kd.C_drewN ?_ _) | (with_reducible refine Kd.C_drew ?_))); (case side2 => exact HC0.out); rintro e w7 ⟨v272, rfl, ho0, hb⟩; have n0_ := Aside0.mk (Kd.R_lower ho0 (below_size bl_)); have n1_ := Aside0.mk (below_step bl_ hb); clear HB; have HO273 := n0_; have HB := n1_; clear n0_ n1_; (try clear hb); (try clear hb2); (try clear hk); (try clear hi); (try clear ho0); obtain ⟨Ao8, co8, eo8⟩ := Kd.R_slice HO273.out; subst eo8) | (go_at_call 17; (with_reducible refine (impl_ListSort.calls _ _ t269 t270 t271 t274 t275 _ ?side1 ?side2 ?side3 A4.out).mono ?_); (case side1 => repeat (first | exact (Kd.R_reads' HO273.out).2.2 | (with_reducible refine Kd.C_alloc ?_ _) | (with_reducible refine Kd.C_drewN ?_ _) | (with_reducible refine Kd.C_drew ?_))); (case side2 => exact (Kd.R_reads' HO273.out).2.1); (case side3 => exact Glob.below HG.out bl_); rintro e w9 ⟨v276, rfl, ho0, hb⟩; have n0_ := Aside0.mk (Kd.R_elder' (by (with_reducible repeat (first | apply Kd.R_alloc | apply Kd.R_drewN | apply Kd.R_drew)); exact HO273.out) (Kd.R_base ho0) hb); have n1_ := Aside0.mk (Kd.R_lower (Kd.R_new' ho0 (Kd.R_lt (by (with_reducible repeat (first | apply Kd.R_alloc | apply Kd.R_drewN | apply Kd.R_drew)); exact HO273.out))) (below_size bl_)); have n2_ := Aside0.mk (below_step bl_ hb); clear HO273; clear HB; have HO273 := n0_; have HO277 := n1_; have HB := n2_; clear n0_ n1_ n2_; (try clear hb); (try clear hb2); (try clear hk); (try clear hi); (try clear ho0)) | (go_at_call 15; (with_reducible refine (spec_ListSort.calls k _ _ t269 t270 t271 t278 t279 _ ?side1 ?side2 A5.out).mono ?_); (case side1 => repeat (first | exact (Kd.R_reads' HO273.out).2.2 | (with_reducible refine Kd.C_alloc ?_ _) | (with_reducible refine Kd.C_drewN ?_ _) | (with_reducible refine Kd.C_drew ?_))); (case side2 => exact (Kd.R_reads' HO273.out).2.1); rintro e w10 ⟨v280, rfl, ho0, hb⟩; have n0_ := Aside0.mk (Kd.R_elder' (by (with_reducible repeat (first | apply Kd.R_alloc | apply Kd.R_drewN | apply Kd.R_drew)); exact HO273.out) (Kd.R_base ho0) hb); have n1_ := Aside0.mk (Kd.R_elder' (by (with_reducible repeat (first | apply Kd.R_alloc | apply Kd.R_drewN | apply Kd.R_drew)); exact HO277.out) (Kd.R_base ho0) hb); have n2_ := Aside0.mk (Kd.R_lower (Kd.R_new' (Kd.R_new' ho0 (Kd.R_lt (by (with_reducible repeat (first | apply Kd.R_alloc | apply Kd.R_drewN | apply Kd.R_drew)); exact HO273.out))) (Kd.R_lt (by (with_reducible repeat (first | apply Kd.R_alloc | apply Kd.R_drewN | apply Kd.R_drew)); exact HO277.out))) (below_size bl_)); have n3_ := Aside0.mk (below_step bl_ hb); clear HO273; clear HO277; clear HB; have HO273 := n0_; have HO277 := n1_; have HO281 := n2_; have HB := n3_; clear n0_ n1_ n2_ n3_; (try clear hb); (try clear hb2); (try clear hk); (try clear hi); (try clear ho0)))
  repeat (go_quiet (first | (go_at_call 21; (with_reducible refine (spec_DrawListSort.calls k _ _ l0 t269 t270 t271 _ ?side1 ?side2 A3.out).mono ?_); (case side1 => repeat (first | exact HR0.out | (with_reducible refine Kd.C_alloc ?_ _) | (with_reducible refine Kd.C_drewN ?_ _) | (with_reducible refine Kd.C_drew ?_))); (case side2 => exact HC0.out); rintro e w7 ⟨v272, rfl, ho0, hb⟩; have n0_ := Aside0.mk (Kd.R_lower ho0 (below_size bl_)); have n1_ := Aside0.mk (below_step bl_ hb); clear HB; have HO273 := n0_; have HB := n1_; clear n0_ n1_; (try clear hb); (try clear hb2); (try clear hk); (try clear hi); (try clear ho0); obtain ⟨Ao8, co8, eo8⟩ := Kd.R_slice HO273.out; subst eo8) | (go_at_call 17; (with_reducible refine (impl_ListSort.calls _ _ t269 t270 t271 t274 t275 _ ?side1 ?side2 ?side3 A4.out).mono ?_); (case side1 => repeat (first | exact (Kd.R_reads' HO273.out).2.2 | (with_reducible refine Kd.C_alloc ?_ _) | (with_reducible refine Kd.C_drewN ?_ _) | (with_reducible refine Kd.C_drew ?_))); (case side2 => exact (Kd.R_reads' HO273.out).2.1); (case side3 => exact Glob.below HG.out bl_); rintro e w9 ⟨v276, rfl, ho0, hb⟩; have n0_ := Aside0.mk (Kd.R_elder' (by (with_reducible repeat (first | apply Kd.R_alloc | apply Kd.R_drewN | apply Kd.R_drew)); exact HO273.out) (Kd.R_base ho0) hb); have n1_ := Aside0.mk (Kd.R_lower (Kd.R_new' ho0 (Kd.R_lt (by (with_reducible repeat (first | apply Kd.R_alloc | apply Kd.R_drewN | apply Kd.R_drew)); exact HO273.out))) (below_size bl_)); have n2_ := Aside0.mk (below_step bl_ hb); clear HO273; clear HB; have HO273 := n0_; have HO277 := n1_; have HB := n2_; clear n0_ n1_ n2_; (try clear hb); (try clear hb2); (try clear hk); (try clear hi); (try clear ho0)) | (go_at_call 15; (with_reducible refine (spec_ListSort.calls k _ _ t269 t270 t271 t278 t279 _ ?side1 ?side2 A5.out).mono ?_); (case side1 => repeat (first | exact (Kd.R_reads' HO273.out).2.2 | (with_reducible refine Kd.C_alloc ?_ _) | (with_reducible refine Kd.C_drewN ?_ _) | (with_reducible refine Kd.C_drew ?_))); (case side2 => exact (Kd.R_reads' HO273.out).2.1); rintro e w10 ⟨v280, rfl, ho0, hb⟩; have n0_ := Aside0.mk (Kd.R_elder' (by (with_reducible repeat (first | apply Kd.R_alloc | apply Kd.R_drewN | apply Kd.R_drew)); exact HO273.out) (Kd.R_base ho0) hb); have n1_ := Aside0.mk (Kd.R_elder' (by (with_reducible repeat (first | apply Kd.R_alloc | apply Kd.R_drewN | apply Kd.R_drew)); exact HO277.out) (Kd.R_base ho0) hb); have n2_ := Aside0.mk (Kd.R_lower (Kd.R_new' (Kd.R_new' ho0 (Kd.R_lt (by (with_reducible repeat (first | apply Kd.R_alloc | apply Kd.R_drewN | apply Kd.R_drew)); exact HO273.out))) (Kd.R_lt (by (with_reducible repeat (first | apply Kd.R_alloc | apply Kd.R_drewN | apply Kd.R_drew)); exact HO277.out))) (below_size bl_)); have n3_ := Aside0.mk (below_step bl_ hb); clear HO273; clear HO277; clear HB; have HO273 := n0_; have HO277 := n1_; have HO281 := n2_; have HB := n3_; clear n0_ n1_ n2_ n3_; (try clear hb); (try clear hb2); (try clear hk); (try clear hi); (try clear ho0))); go_upto_region 6 with (first | (go_at_call 21; (with_reducible refine (spec_DrawListSort.calls k _ _ l0 t269 t270 t271 _ ?side1 ?side2 A3.out).mono ?_); (case side1 => repeat (first | exact HR0.out | (with_reducible refine Kd.C_alloc ?_ _) | (with_reducible refine Kd.C_drewN ?_ _) | (with_reducible refine Kd.C_drew ?_))); (case side2 => exact HC0.out); rintro e w7 ⟨v272, rfl, ho0, hb⟩; have n0_ := Aside0.mk (Kd.R_lower ho0 (below_size bl_)); have n1_ := Aside0.mk (below_step bl_ hb); clear HB; have HO273 := n0_; have HB := n1_; clear n0_ n1_; (try clear hb); (try clear hb2); (try clear hk); (try clear hi); (try clear ho0); obtain ⟨Ao8, co8, eo8⟩ := Kd.R_slice HO273.out; subst eo8) | (go_at_call 17; (with_reducible refine (impl_ListSort.calls _ _ t269 t270 t271 t274 t275 _ ?side1 ?side2 ?side3 A4.out).mono ?_); (case side1 => repeat (first | exact (Kd.R_reads' HO273.out).2.2 | (with_reducible refine Kd.C_alloc ?_ _) | (with_reducible refine Kd.C_drewN ?_ _) | (with_reducible refine Kd.C_drew ?_))); (case side2 => exact (Kd.R_reads' HO273.out).2.1); (case side3 => exact Glob.below HG.out bl_); rintro e w9 ⟨v276, rfl, ho0, hb⟩; have n0_ := Aside0.mk (Kd.R_elder' (by (with_reducible repeat (first | apply Kd.R_alloc | apply Kd.R_drewN | apply Kd.R_drew)); exact HO273.out) (Kd.R_base ho0) hb); have n1_ := Aside0.mk (Kd.R_lower (Kd.R_new' ho0 (Kd.R_lt (by (with_reducible repeat (first | apply Kd.R_alloc | apply Kd.R_drewN | apply Kd.R_drew)); exact HO273.out))) (below_size bl_)); have n2_ := Aside0.mk (below_step bl_ hb); clear HO273; clear HB; have HO273 := n0_; have HO277 := n1_; have HB := n2_; clear n0_ n1_ n2_; (try clear hb); (try clear hb2); (try clear hk); (try clear hi); (try clear ho0)) | (go_at_call 15; (with_reducible refine (spec_ListSort.calls k _ _ t269 t270 t271 t278 t279 _ ?side1 ?side2 A5.out).mono ?_); (case side1 => repeat (first | exact (Kd.R_reads' HO273.out).2.2 | (with_reducible refine Kd.C_alloc ?_ _) | (with_reducible refine Kd.C_drewN ?_ _) | (with_reducible refine Kd.C_drew ?_))); (case side2 => exact (Kd.R_reads' HO273.out).2.1); rintro e w10 ⟨v280, rfl, ho0, hb⟩; have n0_ := Aside0.mk (Kd.R_elder' (by (with_reducible repeat (first | apply Kd.R_alloc | apply Kd.R_drewN | apply Kd.R_drew)); exact HO273.out) (Kd.R_base ho0) hb); have n1_ := Aside0.mk (Kd.R_elder' (by (with_reducible repeat (first | apply Kd.R_alloc | apply Kd.R_drewN | apply Kd.R_drew)); exact HO277.out) (Kd.R_base ho0) hb); have n2_ := Aside0.mk (Kd.R_lower (Kd.R_new' (Kd.R_new' ho0 (Kd.R_lt (by (with_reducible repeat (first | apply Kd.R_alloc | apply Kd.R_drewN | apply Kd.R_drew)); exact HO273.out))) (Kd.R_lt (by (with_reducible repeat (first | apply Kd.R_alloc | apply Kd.R_drewN | apply Kd.R_drew)); exact HO277.out))) (below_size bl_)); have n3_ := Aside0.mk (below_step bl_ hb); clear HO273; clear HO277; clear HB; have HO273 := n0_; have HO277 := n1_; have HO281 := n2_; have HB := n3_; clear n0_ n1_ n2_ n3_; (try clear hb); (try clear hb2); (try clear hk); (try clear hi); (try clear ho0))))
  (try simp only [Act.put, List.setIfInBounds_toArray, List.set_cons_zero, List.set_cons_succ])
  go_cut [56] (fun v56 wc => ∃ (kq : Nat) (x56_5 : Bool), v56 = .bool x56_5 ∧ Aside0 (laws_FnListSort.j0 kq t269 t270 t271 t274 t275 t278 t279 x56_5 = some r) ∧ Aside0 (kq ≤ k) ∧ Aside0 (Kd.R Kd.string 9 wc w.heap.size (fun k_ => some k_ ≠ (v276 : Value).ownBlock ∧ some k_ ≠ (v280 : Value).ownBlock) (.slice Ao8 t269.length co8) t269) ∧ Aside0 (Kd.R Kd.string 9 wc w.heap.size (fun k_ => some k_ ≠ ((.slice Ao8 t269.length co8) : Value).ownBlock ∧ some k_ ≠ (v280 : Value).ownBlock) v276 t274) ∧ Aside0 (Kd.R Kd.string 9 wc w.heap.size (fun k_ => some k_ ≠ ((.slice Ao8 t269.length co8) : Value).ownBlock ∧ some k_ ≠ (v276 : Value).ownBlock) v280 t278) ∧ Aside0 (Below w.heap.size w wc))
  case first => as_aux_lemma =>
   have H := HC6.out
   clear HC6
   by_cases c11 : (t275 != t279) = true
   ·rw [if_pos c11] at H
    have c11b0 : (t275 != t279) = true := c11
    (try (have c11b1 : decide (t275 = t279) = false := by simpa using c11))
    (try (have c11b2 : (t275 == t279) = false := by simpa using c11))
    (try (have c11b3 : ¬ (t275 = t279) := by simpa using c11))
    clear c11
    (first | rw [c11b0] | (simp only [i64_w, i32_w]; rw [c11b0]) | skip)
    have H' := Aside0.mk H
    clear H
    go_wp2
    repeat (go_quiet (fail); try go_wp2)
    go_meet
    case rel => exact ⟨_, (true), rs_, H', ⟨by first | omega | exact Nat.le_refl _⟩, ⟨by (with_reducible repeat (first | apply Kd.R_alloc | apply Kd.R_drewN | apply Kd.R_drew)); exact Kd.R_mono HO273.out (fun _ hk => ⟨hk.1.2, hk.2⟩)⟩, ⟨by (with_reducible repeat (first | apply Kd.R_alloc | apply Kd.R_drewN | apply Kd.R_drew)); exact Kd.R_mono HO277.out (fun _ hk => ⟨hk.1.2, hk.2⟩)⟩, ⟨by (with_reducible repeat (first | apply Kd.R_alloc | apply Kd.R_drewN | apply Kd.R_drew)); exact Kd.R_mono HO281.out (fun _ hk => ⟨hk.1.2, hk.2⟩)⟩, ⟨bl_⟩⟩
   ·rw [if_neg c11] at H
    have c11b0 : (t275 != t279) = false := by simpa using c11
    (try (have c11b1 : decide (t275 = t279) = true := by simpa using c11))
    (try (have c11b2 : (t275 == t279) = true := by simpa using c11))
    clear c11
    (first | rw [c11b0] | (simp only [i64_w, i32_w]; rw [c11b0]) | skip)
    replace H := Option.bind_eq_some_iff.mp H
    obtain ⟨t282, A120, H⟩ := H
    replace H : (if t282 = true then (laws_FnListSort.j0 k t269 t270 t271 t274 t275 t278 t279 (!t275)) else (laws_FnListSort.j0 k t269 t270 t271 t274 t275 t278 t279 true)) = some r := H
    have A12 := Aside0.mk A120
    clear A120
    by_cases c13 : t282 = true
    ·subst c13
     have H1 : (laws_FnListSort.j0 k t269 t270 t271 t274 t275 t278 t279 (!t275)) = some r := by rw [if_pos rfl] at H; exact H
     clear H
     have H := H1
     clear H1
     have H' := Aside0.mk H
     clear H
     obtain ⟨Ao14, co14, eo14⟩ := Kd.R_slice HO277.out
     subst eo14
     obtain ⟨Ao15, co15, eo15⟩ := Kd.R_slice HO281.out
     subst eo15
     go_wp2_with (first | (go_at_call 22; (with_reducible refine (laws_qxTexts.calls k _ _ t274 _ _ t278 true _ ?side1 ?side2 ?side3 ?side4 A12.out).mono ?_); (case side1 => repeat (first | exact (Kd.R_reads' HO277.out).2.2 | (with_reducible refine Kd.C_alloc ?_ _) | (with_reducible refine Kd.C_drewN ?_ _) | (with_reducible refine Kd.C_drew ?_))); (case side2 => exact (Kd.R_reads' HO277.out).2.1); (case side3 => repeat (first | exact (Kd.R_reads' HO281.out).2.2 | (with_reducible refine Kd.C_alloc ?_ _) | (with_reducible refine Kd.C_drewN ?_ _) | (with_reducible refine Kd.C_drew ?_))); (case side4 => exact (Kd.R_reads' HO281.out).2.1); rintro e w' ⟨rfl, ⟨nd, rfl⟩⟩; (try first | exact ⟨rfl, _, World.drewN_drewN _ _ _⟩ | exact ⟨rfl, _, Eq.trans (World.drewN_drewN _ _ _) (congrArg (World.drewN _) (Nat.add_assoc _ _ _))⟩)))
     repeat (go_quiet (first | (go_at_call 22; (with_reducible refine (laws_qxTexts.calls k _ _ t274 _ _ t278 true _ ?side1 ?side2 ?side3 ?side4 A12.out).mono ?_); (case side1 => repeat (first | exact (Kd.R_reads' HO277.out).2.2 | (with_reducible refine Kd.C_alloc ?_ _) | (with_reducible refine Kd.C_drewN ?_ _) | (with_reducible refine Kd.C_drew ?_))); (case side2 => exact (Kd.R_reads' HO277.out).2.1); (case side3 => repeat (first | exact (Kd.R_reads' HO281.out).2.2 | (with_reducible refine Kd.C_alloc ?_ _) | (with_reducible refine Kd.C_drewN ?_ _) | (with_reducible refine Kd.C_drew ?_))); (case side4 => exact (Kd.R_reads' HO281.out).2.1); rintro e w' ⟨rfl, ⟨nd, rfl⟩⟩; (try first | exact ⟨rfl, _, World.drewN_drewN _ _ _⟩ | exact ⟨rfl, _, Eq.trans (World.drewN_drewN _ _ _) (congrArg (World.drewN _) (Nat.add_assoc _ _ _))⟩))); try go_wp2_with (first | (go_at_call 22; (with_reducible refine (laws_qxTexts.calls k _ _ t274 _ _ t278 true _ ?side1 ?side2 ?side3 ?side4 A12.out).mono ?_); (case side1 => repeat (first | exact (Kd.R_reads' HO277.out).2.2 | (with_reducible refine Kd.C_alloc ?_ _) | (with_reducible refine Kd.C_drewN ?_ _) | (with_reducible refine Kd.C_drew ?_))); (case side2 => exact (Kd.R_reads' HO277.out).2.1); (case side3 => repeat (first | exact (Kd.R_reads' HO281.out).2.2 | (with_reducible refine Kd.C_alloc ?_ _) | (with_reducible refine Kd.C_drewN ?_ _) | (with_reducible refine Kd.C_drew ?_))); (case side4 => exact (Kd.R_reads' HO281.out).2.1); rintro e w' ⟨rfl, ⟨nd, rfl⟩⟩; (try first | exact ⟨rfl, _, World.drewN_drewN _ _ _⟩ | exact ⟨rfl, _, Eq.trans (World.drewN_drewN _ _ _) (congrArg (World.drewN _) (Nat.add_assoc _ _ _))⟩))))
     go_meet
     case rel => exact ⟨_, (!t275), rs_, H', ⟨by first | omega | exact Nat.le_refl _⟩, ⟨by (with_reducible repeat (first | apply Kd.R_alloc | apply Kd.R_drewN | apply Kd.R_drew)); exact Kd.R_mono HO273.out (fun _ hk => ⟨hk.1.2, hk.2⟩)⟩, ⟨by (with_reducible repeat (first | apply Kd.R_alloc | apply Kd.R_drewN | apply Kd.R_drew)); exact Kd.R_mono HO277.out (fun _ hk => ⟨hk.1.2, hk.2⟩)⟩, ⟨by (with_reducible repeat (first | apply Kd.R_alloc | apply Kd.R_drewN | apply Kd.R_drew)); exact Kd.R_mono HO281.out (fun _ hk => ⟨hk.1.2, hk.2⟩)⟩, ⟨bl_⟩⟩
    ·replace c13 := Bool.eq_false_iff.mpr c13
     subst c13
     have H1 : (laws_FnListSort.j0 k t269 t270 t271 t274 t275 t278 t279 true) = some r := by rw [if_neg (show ¬ (false = true) by decide)] at H; exact H
     clear H
     have H := H1
     clear H1
     have H' := Aside0.mk H
     clear H
     obtain ⟨Ao16, co16, eo16⟩ := Kd.R_slice HO277.out
     subst eo16
     obtain ⟨Ao17, co17, eo17⟩ := Kd.R_slice HO281.out
     subst eo17
     go_wp2_with (first | (go_at_call 22; (with_reducible refine (laws_qxTexts.calls k _ _ t274 _ _ t278 false _ ?side1 ?side2 ?side3 ?side4 A12.out).mono ?_); (case side1 => repeat (first | exact (Kd.R_reads' HO277.out).2.2 | (with_reducible refine Kd.C_alloc ?_ _) | (with_reducible refine Kd.C_drewN ?_ _) | (with_reducible refine Kd.C_drew ?_))); (case side2 => exact (Kd.R_reads' HO277.out).2.1); (case side3 => repeat (first | exact (Kd.R_reads' HO281.out).2.2 | (with_reducible refine Kd.C_alloc ?_ _) | (with_reducible refine Kd.C_drewN ?_ _) | (with_reducible refine Kd.C_drew ?_))); (case side4 => exact (Kd.R_reads' HO281.out).2.1); rintro e w' ⟨rfl, ⟨nd, rfl⟩⟩; (try first | exact ⟨rfl, _, World.drewN_drewN _ _ _⟩ | exact ⟨rfl, _, Eq.trans (World.drewN_drewN _ _ _) (congrArg (World.drewN _) (Nat.add_assoc _ _ _))⟩)))
     repeat (go_quiet (first | (go_at_call 22; (with_reducible refine (laws_qxTexts.calls k _ _ t274 _ _ t278 false _ ?side1 ?side2 ?side3 ?side4 A12.out).mono ?_); (case side1 => repeat (first | exact (Kd.R_reads' HO277.out).2.2 | (with_reducible refine Kd.C_alloc ?_ _) | (with_reducible refine Kd.C_drewN ?_ _) | (with_reducible refine Kd.C_drew ?_))); (case side2 => exact (Kd.R_reads' HO277.out).2.1); (case side3 => repeat (first | exact (Kd.R_reads' HO281.out).2.2 | (with_reducible refine Kd.C_alloc ?_ _) | (with_reducible refine Kd.C_drewN ?_ _) | (with_reducible refine Kd.C_drew ?_))); (case side4 => exact (Kd.R_reads' HO281.out).2.1); rintro e w' ⟨rfl, ⟨nd, rfl⟩⟩; (try first | exact ⟨rfl, _, World.drewN_drewN _ _ _⟩ | exact ⟨rfl, _, Eq.trans (World.drewN_drewN _ _ _) (congrArg (World.drewN _) (Nat.add_assoc _ _ _))⟩))); try go_wp2_with (first | (go_at_call 22; (with_reducible refine (laws_qxTexts.calls k _ _ t274 _ _ t278 false _ ?side1 ?side2 ?side3 ?side4 A12.out).mono ?_); (case side1 => repeat (first | exact (Kd.R_reads' HO277.out).2.2 | (with_reducible refine Kd.C_alloc ?_ _) | (with_reducible refine Kd.C_drewN ?_ _) | (with_reducible refine Kd.C_drew ?_))); (case side2 => exact (Kd.R_reads' HO277.out).2.1); (case side3 => repeat (first | exact (Kd.R_reads' HO281.out).2.2 | (with_reducible refine Kd.C_alloc ?_ _) | (with_reducible refine Kd.C_drewN ?_ _) | (with_reducible refine Kd.C_drew ?_))); (case side4 => exact (Kd.R_reads' HO281.out).2.1); rintro e w' ⟨rfl, ⟨nd, rfl⟩⟩; (try first | exact ⟨rfl, _, World.drewN_drewN _ _ _⟩ | exact ⟨rfl, _, Eq.trans (World.drewN_drewN _ _ _) (congrArg (World.drewN _) (Nat.add_assoc _ _ _))⟩))))
     go_meet
     case rel => exact ⟨_, (true), rs_, H', ⟨by first | omega | exact Nat.le_refl _⟩, ⟨by (with_reducible repeat (first | apply Kd.R_alloc | apply Kd.R_drewN | apply Kd.R_drew)); exact Kd.R_mono HO273.out (fun _ hk => ⟨hk.1.2, hk.2⟩)⟩, ⟨by (with_reducible repeat (first | apply Kd.R_alloc | apply Kd.R_drewN | apply Kd.R_drew)); exact Kd.R_mono HO277.out (fun _ hk => ⟨hk.1.2, hk.2⟩)⟩, ⟨by (with_reducible repeat (first | apply Kd.R_alloc | apply Kd.R_drewN | apply Kd.R_drew)); exact Kd.R_mono HO281.out (fun _ hk => ⟨hk.1.2, hk.2⟩)⟩, ⟨bl_⟩⟩
  case rest => as_aux_lemma =>
   clear HC6
   try clear c1
   try clear c2
   try clear c2b0
   try clear c2b1
   try clear p2
   try clear c5
   try clear c11
   try clear c11b0
   try clear c11b1
   try clear c11b2
   try clear c13
   obtain ⟨kq, x56_5, rfl, HA, HJ5, HO_3, HO_6, HO_8, HB⟩ := hcut
   cases kq with
   | zero => exact absurd HA.out (by simp [laws_FnListSort.j0])
   | succ kj5 =>
    have H := HA.out
    clear HA
    simp only [laws_FnListSort.j0] at H
    by_cases c18 : x56_5 = true
    ·subst c18
     have H1 : (if (t275 == t279) = true then ((laws_qxTexts.f kj5 t274 t278).bind fun t283 => (some t283)) else (some false)) = some r := by rw [if_pos rfl] at H; exact H
     clear H
     have H := H1
     clear H1
     by_cases c19 : (t275 == t279) = true
     ·rw [if_pos c19] at H
      have c19b0 : (t275 == t279) = true := c19
      (try (have c19b1 : decide (t275 = t279) = true := by simpa using c19))
      (try (have c19b2 : (t275 == t279) = true := by simpa using c19))
      clear c19
      replace H := Option.bind_eq_some_iff.mp H
      obtain ⟨t283, A200, H⟩ := H
      replace H : (some t283) = some r := H
      have A20 := Aside0.mk A200
      clear A200
      obtain rfl := Option.some.inj H
      obtain ⟨Ao21, co21, eo21⟩ := Kd.R_slice HO_6.out
      subst eo21
      obtain ⟨Ao22, co22, eo22⟩ := Kd.R_slice HO_8.out
      subst eo22
      go_wp2_with (first | (go_at_call 22; (with_reducible refine (laws_qxTexts.calls kj5 _ _ t274 _ _ t278 t283 _ ?side1 ?side2 ?side3 ?side4 A20.out).mono ?_); (case side1 => repeat (first | exact (Kd.R_reads' HO_6.out).2.2 | (with_reducible refine Kd.C_alloc ?_ _) | (with_reducible refine Kd.C_drewN ?_ _) | (with_reducible refine Kd.C_drew ?_))); (case side2 => exact (Kd.R_reads' HO_6.out).2.1); (case side3 => repeat (first | exact (Kd.R_reads' HO_8.out).2.2 | (with_reducible refine Kd.C_alloc ?_ _) | (with_reducible refine Kd.C_drewN ?_ _) | (with_reducible refine Kd.C_drew ?_))); (case side4 => exact (Kd.R_reads' HO_8.out).2.1); rintro e w' ⟨rfl, ⟨nd, rfl⟩⟩; (try first | exact ⟨rfl, _, World.drewN_drewN _ _ _⟩ | exact ⟨rfl, _, Eq.trans (World.drewN_drewN _ _ _) (congrArg (World.drewN _) (Nat.add_assoc _ _ _))⟩)))
      repeat (go_quiet (first | (go_at_call 22; (with_reducible refine (laws_qxTexts.calls kj5 _ _ t274 _ _ t278 t283 _ ?side1 ?side2 ?side3 ?side4 A20.out).mono ?_); (case side1 => repeat (first | exact (Kd.R_reads' HO_6.out).2.2 | (with_reducible refine Kd.C_alloc ?_ _) | (with_reducible refine Kd.C_drewN ?_ _) | (with_reducible refine Kd.C_drew ?_))); (case side2 => exact (Kd.R_reads' HO_6.out).2.1); (case side3 => repeat (first | exact (Kd.R_reads' HO_8.out).2.2 | (with_reducible refine Kd.C_alloc ?_ _) | (with_reducible refine Kd.C_drewN ?_ _) | (with_reducible refine Kd.C_drew ?_))); (case side4 => exact (Kd.R_reads' HO_8.out).2.1); rintro e w' ⟨rfl, ⟨nd, rfl⟩⟩; (try first | exact ⟨rfl, _, World.drewN_drewN _ _ _⟩ | exact ⟨rfl, _, Eq.trans (World.drewN_drewN _ _ _) (congrArg (World.drewN _) (Nat.add_assoc _ _ _))⟩))); try go_wp2_with (first | (go_at_call 22; (with_reducible refine (laws_qxTexts.calls kj5 _ _ t274 _ _ t278 t283 _ ?side1 ?side2 ?side3 ?side4 A20.out).mono ?_); (case side1 => repeat (first | exact (Kd.R_reads' HO_6.out).2.2 | (with_reducible refine Kd.C_alloc ?_ _) | (with_reducible refine Kd.C_drewN ?_ _) | (with_reducible refine Kd.C_drew ?_))); (case side2 => exact (Kd.R_reads' HO_6.out).2.1); (case side3 => repeat (first | exact (Kd.R_reads' HO_8.out).2.2 | (with_reducible refine Kd.C_alloc ?_ _) | (with_reducible refine Kd.C_drewN ?_ _) | (with_reducible refine Kd.C_drew ?_))); (case side4 => exact (Kd.R_reads' HO_8.out).2.1); rintro e w' ⟨rfl, ⟨nd, rfl⟩⟩; (try first | exact ⟨rfl, _, World.drewN_drewN _ _ _⟩ | exact ⟨rfl, _, Eq.trans (World.drewN_drewN _ _ _) (congrArg (World.drewN _) (Nat.add_assoc _ _ _))⟩))))
      go_ret
      exact ⟨re_, bl_⟩
     ·rw [if_neg c19] at H
      have c19b0 : (t275 == t279) = false := by simpa using c19
      (try (have c19b1 : decide (t275 = t279) = false := by simpa using c19))
      (try (have c19b2 : (t275 == t279) = false := by simpa using c19))
      (try (have c19b3 : ¬ (t275 = t279) := by simpa using c19))
      clear c19
      obtain rfl := Option.some.inj H
      go_wp2
      repeat (go_quiet (fail); try go_wp2)
      go_ret
      exact ⟨re_, bl_⟩
    ·replace c18 := Bool.eq_false_iff.mpr c18
     subst c18
     have H1 : ((impl_ListSort.f t269 t270 (!t271)).bind fun bt284 => ((impl_ListSort.f t274 t270 t271).bind fun bt288 => (laws_FnListSort.l0 kj5 t269 t270 t271 t274 bt284.1 bt284.2 bt288.1 bt288.2 0))) = some r := by rw [if_neg (show ¬ (false = true) by decide)] at H; exact H
     clear H
     have H := H1
     clear H1
     replace H := Option.bind_eq_some_iff.mp H
     obtain ⟨⟨t284, t285⟩, A230, H⟩ := H
     replace H : ((impl_ListSort.f t274 t270 t271).bind fun bt288 => (laws_FnListSort.l0 kj5 t269 t270 t271 t274 t284 t285 bt288.1 bt288.2 0)) = some r := H
     have A23 := Aside0.mk A230
     clear A230
     replace H := Option.bind_eq_some_iff.mp H
     obtain ⟨⟨t288, t289⟩, A240, H⟩ := H
     replace H : (laws_FnListSort.l0 kj5 t269 t270 t271 t274 t284 t285 t288 t289 0) = some r := H
     have A24 := Aside0.mk A240
     clear A240
     have H' := Aside0.mk H
     clear H
     go_wp2_with (first | (go_at_call 17; (with_reducible refine (impl_ListSort.calls _ _ t269 t270 (!t271) t284 t285 _ ?side1 ?side2 ?side3 A23.out).mono ?_); (case side1 => repeat (first | exact (Kd.R_reads' HO_3.out).2.2 | (with_reducible refine Kd.C_alloc ?_ _) | (with_reducible refine Kd.C_drewN ?_ _) | (with_reducible refine Kd.C_drew ?_))); (case side2 => exact (Kd.R_reads' HO_3.out).2.1); (case side3 => exact Glob.below HG.out bl_); rintro e w25 ⟨v286, rfl, ho0, hb⟩; have n0_ := Aside0.mk (Kd.R_elder' (by (with_reducible repeat (first | apply Kd.R_alloc | apply Kd.R_drewN | apply Kd.R_drew)); exact HO_3.out) (Kd.R_base ho0) hb); have n1_ := Aside0.mk (Kd.R_elder' (by (with_reducible repeat (first | apply Kd.R_alloc | apply Kd.R_drewN | apply Kd.R_drew)); exact HO_6.out) (Kd.R_base ho0) hb); have n2_ := Aside0.mk (Kd.R_elder' (by (with_reducible repeat (first | apply Kd.R_alloc | apply Kd.R_drewN | apply Kd.R_drew)); exact HO_8.out) (Kd.R_base ho0) hb); have n3_ := Aside0.mk (Kd.R_lower (Kd.R_new' (Kd.R_new' (Kd.R_new' ho0 (Kd.R_lt (by (with_reducible repeat (first | apply Kd.R_alloc | apply Kd.R_drewN | apply Kd.R_drew)); exact HO_3.out))) (Kd.R_lt (by (with_reducible repeat (first | apply Kd.R_alloc | apply Kd.R_drewN | apply Kd.R_drew)); exact HO_6.out))) (Kd.R_lt (by (with_reducible repeat (first | apply Kd.R_alloc | apply Kd.R_drewN | apply Kd.R_drew)); exact HO_8.out))) (below_size bl_)); have n4_ := Aside0.mk (below_step bl_ hb); clear HO_3; clear HO_6; clear HO_8; clear HB; have HO_3 := n0_; have HO_6 := n1_; have HO_8 := n2_; have HO287 := n3_; have HB := n4_; clear n0_ n1_ n2_ n3_ n4_; (try clear hb); (try clear hb2); (try clear hk); (try clear hi); (try clear ho0); obtain ⟨Ao26, co26, eo26⟩ := Kd.R_slice HO_6.out; subst eo26) | (go_at_call 17; (with_reducible refine (impl_ListSort.calls _ _ t274 t270 t271 t288 t289 _ ?side1 ?side2 ?side3 A24.out).mono ?_); (case side1 => repeat (first | exact (Kd.R_reads' HO_6.out).2.2 | (with_reducible refine Kd.C_alloc ?_ _) | (with_reducible refine Kd.C_drewN ?_ _) | (with_reducible refine Kd.C_drew ?_))); (case side2 => exact (Kd.R_reads' HO_6.out).2.1); (case side3 => exact Glob.below HG.out bl_); rintro e w27 ⟨v290, rfl, ho0, hb⟩; have n0_ := Aside0.mk (Kd.R_elder' (by (with_reducible repeat (first | apply Kd.R_alloc | apply Kd.R_drewN | apply Kd.R_drew)); exact HO_3.out) (Kd.R_base ho0) hb); have n1_ := Aside0.mk (Kd.R_elder' (by (with_reducible repeat (first | apply Kd.R_alloc | apply Kd.R_drewN | apply Kd.R_drew)); exact HO_6.out) (Kd.R_base ho0) hb); have n2_ := Aside0.mk (Kd.R_elder' (by (with_reducible repeat (first | apply Kd.R_alloc | apply Kd.R_drewN | apply Kd.R_drew)); exact HO_8.out) (Kd.R_base ho0) hb); have n3_ := Aside0.mk (Kd.R_elder' (by (with_reducible repeat (first | apply Kd.R_alloc | apply Kd.R_drewN | apply Kd.R_drew)); exact HO287.out) (Kd.R_base ho0) hb); have n4_ := Aside0.mk (Kd.R_lower (Kd.R_new' (Kd.R_new' (Kd.R_new' (Kd.R_new' ho0 (Kd.R_lt (by (with_reducible repeat (first | apply Kd.R_alloc | apply Kd.R_drewN | apply Kd.R_drew)); exact HO_3.out))) (Kd.R_lt (by (with_reducible repeat (first | apply Kd.R_alloc | apply Kd.R_drewN | apply Kd.R_drew)); exact HO_6.out))) (Kd.R_lt (by (with_reducible repeat (first | apply Kd.R_alloc | apply Kd.R_drewN | apply Kd.R_drew)); exact HO_8.out))) (Kd.R_lt (by (with_reducible repeat (first | apply Kd.R_alloc | apply Kd.R_drewN | apply Kd.R_drew)); exact HO287.out))) (below_size bl_)); have n5_ := Aside0.mk (below_step bl_ hb); clear HO_3; clear HO_6; clear HO_8; clear HO287; clear HB; have HO_3 := n0_; have HO_6 := n1_; have HO_8 := n2_; have HO287 := n3_; have HO291 := n4_; have HB := n5_; clear n0_ n1_ n2_ n3_ n4_ n5_; (try clear hb); (try clear hb2); (try clear hk); (try clear hi); (try clear ho0)))
     repeat (go_quiet (first | (go_at_call 17; (with_reducible refine (impl_ListSort.calls _ _ t269 t270 (!t271) t284 t285 _ ?side1 ?side2 ?side3 A23.out).mono ?_); (case side1 => repeat (first | exact (Kd.R_reads' HO_3.out).2.2 | (with_reducible refine Kd.C_alloc ?_ _) | (with_reducible refine Kd.C_drewN ?_ _) | (with_reducible refine Kd.C_drew ?_))); (case side2 => exact (Kd.R_reads' HO_3.out).2.1); (case side3 => exact Glob.below HG.out bl_); rintro e w25 ⟨v286, rfl, ho0, hb⟩; have n0_ := Aside0.mk (Kd.R_elder' (by (with_reducible repeat (first | apply Kd.R_alloc | apply Kd.R_drewN | apply Kd.R_drew)); exact HO_3.out) (Kd.R_base ho0) hb); have n1_ := Aside0.mk (Kd.R_elder' (by (with_reducible repeat (first | apply Kd.R_alloc | apply Kd.R_drewN | apply Kd.R_drew)); exact HO_6.out) (Kd.R_base ho0) hb); have n2_ := Aside0.mk (Kd.R_elder' (by (with_reducible repeat (first | apply Kd.R_alloc | apply Kd.R_drewN | apply Kd.R_drew)); exact HO_8.out) (Kd.R_base ho0) hb); have n3_ := Aside0.mk (Kd.R_lower (Kd.R_new' (Kd.R_new' (Kd.R_new' ho0 (Kd.R_lt (by (with_reducible repeat (first | apply Kd.R_alloc | apply Kd.R_drewN | apply Kd.R_drew)); exact HO_3.out))) (Kd.R_lt (by (with_reducible repeat (first | apply Kd.R_alloc | apply Kd.R_drewN | apply Kd.R_drew)); exact HO_6.out))) (Kd.R_lt (by (with_reducible repeat (first | apply Kd.R_alloc | apply Kd.R_drewN | apply Kd.R_drew)); exact HO_8.out))) (below_size bl_)); have n4_ := Aside0.mk (below_step bl_ hb); clear HO_3; clear HO_6; clear HO_8; clear HB; have HO_3 := n0_; have HO_6 := n1_; have HO_8 := n2_; have HO287 := n3_; have HB := n4_; clear n0_ n1_ n2_ n3_ n4_; (try clear hb); (try clear hb2); (try clear hk); (try clear hi); (try clear ho0); obtain ⟨Ao26, co26, eo26⟩ := Kd.R_slice HO_6.out; subst eo26) | (go_at_call 17; (with_reducible refine (impl_ListSort.calls _ _ t274 t270 t271 t288 t289 _ ?side1 ?side2 ?side3 A24.out).mono ?_); (case side1 => repeat (first | exact (Kd.R_reads' HO_6.out).2.2 | (with_reducible refine Kd.C_alloc ?_ _) | (with_reducible refine Kd.C_drewN ?_ _) | (with_reducible refine Kd.C_drew ?_))); (case side2 => exact (Kd.R_reads' HO_6.out).2.1); (case side3 => exact Glob.below HG.out bl_); rintro e w27 ⟨v290, rfl, ho0, hb⟩; have n0_ := Aside0.mk (Kd.R_elder' (by (with_reducible repeat (first | apply Kd.R_alloc | apply Kd.R_drewN | apply Kd.R_drew)); exact HO_3.out) (Kd.R_base ho0) hb); have n1_ := Aside0.mk (Kd.R_elder' (by (with_reducible repeat (first | apply Kd.R_alloc | apply Kd.R_drewN | apply Kd.R_drew)); exact HO_6.out) (Kd.R_base ho0) hb); have n2_ := Aside0.mk (Kd.R_elder' (by (with_reducible repeat (first | apply Kd.R_alloc | apply Kd.R_drewN | apply Kd.R_drew)); exact HO_8.out) (Kd.R_base ho0) hb); have n3_ := Aside0.mk (Kd.R_elder' (by (with_reducible repeat (first | apply Kd.R_alloc | apply Kd.R_drewN | apply Kd.R_drew)); exact HO287.out) (Kd.R_base ho0) hb); have n4_ := Aside0.mk (Kd.R_lower (Kd.R_new' (Kd.R_new' (Kd.R_new' (Kd.R_new' ho0 (Kd.R_lt (by (with_reducible repeat (first | apply Kd.R_alloc | apply Kd.R_drewN | apply Kd.R_drew)); exact HO_3.out))) (Kd.R_lt (by (with_reducible repeat (first | apply Kd.R_alloc | apply Kd.R_drewN | apply Kd.R_drew)); exact HO_6.out))) (Kd.R_lt (by (with_reducible repeat (first | apply Kd.R_alloc | apply Kd.R_drewN | apply Kd.R_drew)); exact HO_8.out))) (Kd.R_lt (by (with_reducible repeat (first | apply Kd.R_alloc | apply Kd.R_drewN | apply Kd.R_drew)); exact HO287.out))) (below_size bl_)); have n5_ := Aside0.mk (below_step bl_ hb); clear HO_3; clear HO_6; clear HO_8; clear HO287; clear HB; have HO_3 := n0_; have HO_6 := n1_; have HO_8 := n2_; have HO287 := n3_; have HO291 := n4_; have HB := n5_; clear n0_ n1_ n2_ n3_ n4_ n5_; (try clear hb); (try clear hb2); (try clear hk); (try clear hi); (try clear ho0))); try go_wp2_with (first | (go_at_call 17; (with_reducible refine (impl_ListSort.calls _ _ t269 t270 (!t271) t284 t285 _ ?side1 ?side2 ?side3 A23.out).mono ?_); (case side1 => repeat (first | exact (Kd.R_reads' HO_3.out).2.2 | (with_reducible refine Kd.C_alloc ?_ _) | (with_reducible refine Kd.C_drewN ?_ _) | (with_reducible refine Kd.C_drew ?_))); (case side2 => exact (Kd.R_reads' HO_3.out).2.1); (case side3 => exact Glob.below HG.out bl_); rintro e w25 ⟨v286, rfl, ho0, hb⟩; have n0_ := Aside0.mk (Kd.R_elder' (by (with_reducible repeat (first | apply Kd.R_alloc | apply Kd.R_drewN | apply Kd.R_drew)); exact HO_3.out) (Kd.R_base ho0) hb); have n1_ := Aside0.mk (Kd.R_elder' (by (with_reducible repeat (first | apply Kd.R_alloc | apply Kd.R_drewN | apply Kd.R_drew)); exact HO_6.out) (Kd.R_base ho0) hb); have n2_ := Aside0.mk (Kd.R_elder' (by (with_reducible repeat (first | apply Kd.R_alloc | apply Kd.R_drewN | apply Kd.R_drew)); exact HO_8.out) (Kd.R_base ho0) hb); have n3_ := Aside0.mk (Kd.R_lower (Kd.R_new' (Kd.R_new' (Kd.R_new' ho0 (Kd.R_lt (by (with_reducible repeat (first | apply Kd.R_alloc | apply Kd.R_drewN | apply Kd.R_drew)); exact HO_3.out))) (Kd.R_lt (by (with_reducible repeat (first | apply Kd.R_alloc | apply Kd.R_drewN | apply Kd.R_drew)); exact HO_6.out))) (Kd.R_lt (by (with_reducible repeat (first | apply Kd.R_alloc | apply Kd.R_drewN | apply Kd.R_drew)); exact HO_8.out))) (below_size bl_)); have n4_ := Aside0.mk (below_step bl_ hb); clear HO_3; clear HO_6; clear HO_8; clear HB; have HO_3 := n0_; have HO_6 := n1_; have HO_8 := n2_; have HO287 := n3_; have HB := n4_; clear n0_ n1_ n2_ n3_ n4_; (try clear hb); (try clear hb2); (try clear hk); (try clear hi); (try clear ho0); obtain ⟨Ao26, co26, eo26⟩ := Kd.R_slice HO_6.out; subst eo26) | (go_at_call 17; (with_reducible refine (impl_ListSort.calls _ _ t274 t270 t271 t288 t289 _ ?side1 ?side2 ?side3 A24.out).mono ?_); (case side1 => repeat (first | exact (Kd.R_reads' HO_6.out).2.2 | (with_reducible refine Kd.C_alloc ?_ _) | (with_reducible refine Kd.C_drewN ?_ _) | (with_reducible refine Kd.C_drew ?_))); (case side2 => exact (Kd.R_reads' HO_6.out).2.1); (case side3 => exact Glob.below HG.out bl_); rintro e w27 ⟨v290, rfl, ho0, hb⟩; have n0_ := Aside0.mk (Kd.R_elder' (by (with_reducible repeat (first | apply Kd.R_alloc | apply Kd.R_drewN | apply Kd.R_drew)); exact HO_3.out) (Kd.R_base ho0) hb); have n1_ := Aside0.mk (Kd.R_elder' (by (with_reducible repeat (first | apply Kd.R_alloc | apply Kd.R_drewN | apply Kd.R_drew)); exact HO_6.out) (Kd.R_base ho0) hb); have n2_ := Aside0.mk (Kd.R_elder' (by (with_reducible repeat (first | apply Kd.R_alloc | apply Kd.R_drewN | apply Kd.R_drew)); exact HO_8.out) (Kd.R_base ho0) hb); have n3_ := Aside0.mk (Kd.R_elder' (by (with_reducible repeat (first | apply Kd.R_alloc | apply Kd.R_drewN | apply Kd.R_drew)); exact HO287.out) (Kd.R_base ho0) hb); have n4_ := Aside0.mk (Kd.R_lower (Kd.R_new' (Kd.R_new' (Kd.R_new' (Kd.R_new' ho0 (Kd.R_lt (by (with_reducible repeat (first | apply Kd.R_alloc | apply Kd.R_drewN | apply Kd.R_drew)); exact HO_3.out))) (Kd.R_lt (by (with_reducible repeat (first | apply Kd.R_alloc | apply Kd.R_drewN | apply Kd.R_drew)); exact HO_6.out))) (Kd.R_lt (by (with_reducible repeat (first | apply Kd.R_alloc | apply Kd.R_drewN | apply Kd.R_drew)); exact HO_8.out))) (Kd.R_lt (by (with_reducible repeat (first | apply Kd.R_alloc | apply Kd.R_drewN | apply Kd.R_drew)); exact HO287.out))) (below_size bl_)); have n5_ := Aside0.mk (below_step bl_ hb); clear HO_3; clear HO_6; clear HO_8; clear HO287; clear HB; have HO_3 := n0_; have HO_6 := n1_; have HO_8 := n2_; have HO287 := n3_; have HO291 := n4_; have HB := n5_; clear n0_ n1_ n2_ n3_ n4_ n5_; (try clear hb); (try clear hb2); (try clear hk); (try clear hi); (try clear ho0))))
     go_loopg [14] kj5 (fun kq v14 w' => ∃ (x14_2 : Int), v14 = .int .i64 x14_2 ∧ Aside0 (laws_FnListSort.l0 kq t269 t270 t271 t274 t284 t285 t288 t289 x14_2 = some r) ∧ Aside0 (kq ≤ kj5) ∧ Aside0 (Kd.R Kd.string 9 w' w.heap.size (fun k_ => some k_ ≠ ((.slice Ao26 t274.length co26) : Value).ownBlock ∧ some k_ ≠ (v286 : Value).ownBlock ∧ some k_ ≠ (v290 : Value).ownBlock) (.slice Ao8 t269.length co8) t269) ∧ Aside0 (Kd.R Kd.string 9 w' w.heap.size (fun k_ => some k_ ≠ ((.slice Ao8 t269.length co8) : Value).ownBlock ∧ some k_ ≠ (v286 : Value).ownBlock ∧ some k_ ≠ (v290 : Value).ownBlock) (.slice Ao26 t274.length co26) t274) ∧ Aside0 (Kd.R Kd.string 9 w' w.heap.size (fun k_ => some k_ ≠ ((.slice Ao8 t269.length co8) : Value).ownBlock ∧ some k_ ≠ ((.slice Ao26 t274.length co26) : Value).ownBlock ∧ some k_ ≠ (v290 : Value).ownBlock) v286 t284) ∧ Aside0 (Kd.R Kd.string 9 w' w.heap.size (fun k_ => some k_ ≠ ((.slice Ao8 t269.length co8) : Value).ownBlock ∧ some k_ ≠ ((.slice Ao26 t274.length co26) : Value).ownBlock ∧ some k_ ≠ (v286 : Value).ownBlock) v290 t288) ∧ Aside0 (Below w.heap.size w w'))
     case atStart => exact ⟨(0), rs_, H', ⟨Nat.le_refl _⟩, ⟨by (with_reducible repeat (first | apply Kd.R_alloc | apply Kd.R_drewN | apply Kd.R_drew)); exact Kd.R_mono HO_3.out (fun _ hk => ⟨hk.1.1.1, ⟨hk.1.2, hk.2⟩⟩)⟩, ⟨by (with_reducible repeat (first | apply Kd.R_alloc | apply Kd.R_drewN | apply Kd.R_drew)); exact Kd.R_mono HO_6.out (fun _ hk => ⟨hk.1.1.1, ⟨hk.1.2, hk.2⟩⟩)⟩, ⟨by (with_reducible repeat (first | apply Kd.R_alloc | apply Kd.R_drewN | apply Kd.R_drew)); exact Kd.R_mono HO287.out (fun _ hk => ⟨hk.1.1.1.2, ⟨hk.1.1.2, hk.2⟩⟩)⟩, ⟨by (with_reducible repeat (first | apply Kd.R_alloc | apply Kd.R_drewN | apply Kd.R_drew)); exact Kd.R_mono HO291.out (fun _ hk => ⟨hk.1.1.1.2, ⟨hk.1.1.2, hk.2⟩⟩)⟩, ⟨bl_⟩⟩
     case round => as_aux_lemma =>
      clear H'
      try clear c1
      try clear c2
      try clear c2b0
      try clear c2b1
      try clear p2
      try clear c5
      try clear c11
      try clear c11b0
      try clear c11b1
      try clear c11b2
      try clear c13
      try clear c18
      try clear c19
      try clear c19b0
      try clear c19b1
      try clear c19b2
      try clear p2
      obtain ⟨x14_2, rfl, HA, HK2, HO_3, HO_6, HO_10, HO_12, HB⟩ := hrel
      cases gk with
      | zero => exact absurd HA.out (by simp [laws_FnListSort.l0])
      | succ k2 =>
       have H := HA.out
       clear HA
       simp only [laws_FnListSort.l0] at H
       by_cases c28 : x14_2 < (t274.length : Int)
       ·rw [if_pos c28] at H
        have c28b0 : decide (x14_2 < (t274.length : Int)) = true := decide_eq_true c28
        clear c28
        have H' := Aside0.mk H
        clear H
        go_wp2
        repeat (go_quiet (fail); try go_wp2)
        go_loopg [15, 16, 17] k2 (fun kq v15 v16 v17 w' => ∃ (x15_3 : Int) (x16_3 : Int) (x17_3 : Int), v15 = .int .i64 x15_3 ∧ v16 = .int .i64 x16_3 ∧ v17 = .int .i64 x17_3 ∧ Aside0 (laws_FnListSort.l1 kq t269 t270 t271 t274 t284 t285 t288 t289 x14_2 x15_3 x16_3 x17_3 = some r) ∧ Aside0 (kq ≤ k2) ∧ Aside0 (Kd.R Kd.string 9 w' w.heap.size (fun k_ => some k_ ≠ ((.slice Ao26 t274.length co26) : Value).ownBlock ∧ some k_ ≠ (v286 : Value).ownBlock ∧ some k_ ≠ (v290 : Value).ownBlock) (.slice Ao8 t269.length co8) t269) ∧ Aside0 (Kd.R Kd.string 9 w' w.heap.size (fun k_ => some k_ ≠ ((.slice Ao8 t269.length co8) : Value).ownBlock ∧ some k_ ≠ (v286 : Value).ownBlock ∧ some k_ ≠ (v290 : Value).ownBlock) (.slice Ao26 t274.length co26) t274) ∧ Aside0 (Kd.R Kd.string 9 w' w.heap.size (fun k_ => some k_ ≠ ((.slice Ao8 t269.length co8) : Value).ownBlock ∧ some k_ ≠ ((.slice Ao26 t274.length co26) : Value).ownBlock ∧ some k_ ≠ (v290 : Value).ownBlock) v286 t284) ∧ Aside0 (Kd.R Kd.string 9 w' w.heap.size (fun k_ => some k_ ≠ ((.slice Ao8 t269.length co8) : Value).ownBlock ∧ some k_ ≠ ((.slice Ao26 t274.length co26) : Value).ownBlock ∧ some k_ ≠ (v286 : Value).ownBlock) v290 t288) ∧ Aside0 (Below w.heap.size w w'))
        case atStart => exact ⟨(0), (0), (0), rs_, rs_, rs_, H', ⟨Nat.le_refl _⟩, ⟨by (with_reducible repeat (first | apply Kd.R_alloc | apply Kd.R_drewN | apply Kd.R_drew)); exact HO_3.out⟩, ⟨by (with_reducible repeat (first | apply Kd.R_alloc | apply Kd.R_drewN | apply Kd.R_drew)); exact HO_6.out⟩, ⟨by (with_reducible repeat (first | apply Kd.R_alloc | apply Kd.R_drewN | apply Kd.R_drew)); exact HO_10.out⟩, ⟨by (with_reducible repeat (first | apply Kd.R_alloc | apply Kd.R_drewN | apply Kd.R_drew)); exact HO_12.out⟩, ⟨bl_⟩⟩
        case round => as_aux_lemma =>
         clear H'
         try clear c1
         try clear c2
         try clear c2b0
         try clear c2b1
         try clear p2
         try clear c5
         try clear c11
         try clear c11b0
         try clear c11b1
         try clear c11b2
         try clear c13
         try clear c18
         try clear c19
         try clear c19b0
         try clear c19b1
         try clear c19b2
         try clear c28
         try clear c28b0
         try clear p2
         obtain ⟨x15_3, x16_3, x17_3, rfl, rfl, rfl, HA, HK3, HO_3, HO_6, HO_10, HO_12, HB⟩ := hrel
         cases gk with
         | zero => exact absurd HA.out (by simp [laws_FnListSort.l1])
         | succ k3 =>
          have H := HA.out
          clear HA
          simp only [laws_FnListSort.l1] at H
          by_cases c29 : x17_3 < (t274.length : Int)
          ·rw [if_pos c29] at H
           have c29b0 : decide (x17_3 < (t274.length : Int)) = true := decide_eq_true c29
           clear c29
           by_cases c30 : 0 ≤ x17_3
           ·rw [if_pos c30] at H
            have c30b0 : decide (0 ≤ x17_3) = true := decide_eq_true c30
            clear c30
            by_cases c31 : 0 ≤ x14_2
            ·rw [if_pos c31] at H
             have c31b0 : decide (0 ≤ x14_2) = true := decide_eq_true c31
             clear c31
             by_cases c32 : x14_2 < (t274.length : Int)
             ·rw [if_pos c32] at H
              have c32b0 : decide (x14_2 < (t274.length : Int)) = true := decide_eq_true c32
              clear c32
              have HC33 := Aside0.mk H
              clear H
              have p293 : 0 ≤ (x17_3 : Int) := od_
              have q293 : x17_3 < (t274.length : Int) := od_
              obtain ⟨ad293, e293, hx293_0⟩ := Kd.at_string (Kd.R_reads' HO_6.out).2.2 x17_3 p293 q293
              cases e293
              replace p293 := eq_true p293
              replace q293 := eq_true q293
              have p294 : 0 ≤ (x14_2 : Int) := od_
              have q294 : x14_2 < (t274.length : Int) := od_
              obtain ⟨ad294, e294, hx294_0⟩ := Kd.at_string (Kd.R_reads' HO_6.out).2.2 x14_2 p294 q294
              obtain rfl : ad293 = ad294 := (by injection e294)
              replace p294 := eq_true p294
              replace q294 := eq_true q294
              go_upto_if 100 with (fail)
              repeat (go_quiet (fail); go_upto_if 100 with (fail))
              go_cut [15] (fun v15 wc => ∃ (kq : Nat) (x15_32 : Int), v15 = .int .i64 x15_32 ∧ Aside0 (laws_FnListSort.j3 kq t269 t270 t271 t274 t284 t285 t288 t289 x14_2 x15_32 x16_3 x17_3 = some r) ∧ Aside0 (kq ≤ k3) ∧ Aside0 (Kd.R Kd.string 9 wc w.heap.size (fun k_ => some k_ ≠ ((.slice (some ad293) t274.length co26) : Value).ownBlock ∧ some k_ ≠ (v286 : Value).ownBlock ∧ some k_ ≠ (v290 : Value).ownBlock) (.slice Ao8 t269.length co8) t269) ∧ Aside0 (Kd.R Kd.string 9 wc w.heap.size (fun k_ => some k_ ≠ ((.slice Ao8 t269.length co8) : Value).ownBlock ∧ some k_ ≠ (v286 : Value).ownBlock ∧ some k_ ≠ (v290 : Value).ownBlock) (.slice (some ad293) t274.length co26) t274) ∧ Aside0 (Kd.R Kd.string 9 wc w.heap.size (fun k_ => some k_ ≠ ((.slice Ao8 t269.length co8) : Value).ownBlock ∧ some k_ ≠ ((.slice (some ad293) t274.length co26) : Value).ownBlock ∧ some k_ ≠ (v290 : Value).ownBlock) v286 t284) ∧ Aside0 (Kd.R Kd.string 9 wc w.heap.size (fun k_ => some k_ ≠ ((.slice Ao8 t269.length co8) : Value).ownBlock ∧ some k_ ≠ ((.slice (some ad293) t274.length co26) : Value).ownBlock ∧ some k_ ≠ (v286 : Value).ownBlock) v290 t288) ∧ Aside0 (Below w.heap.size w wc))
              case first => as_aux_lemma =>
               have H := HC33.out
               clear HC33
               by_cases c34 : (rdOf ByteArray.empty t274 x17_3).toList = (rdOf ByteArray.empty t274 x14_2).toList
               ·rw [if_pos c34] at H
                have c34b0 : ((rdOf ByteArray.empty t274 x17_3).toList == (rdOf ByteArray.empty t274 x14_2).toList) = true := beq_iff_eq.mpr c34
                have c34b1 : ((rdOf ByteArray.empty t274 x17_3).toList != (rdOf ByteArray.empty t274 x14_2).toList) = false := bne_eq_false_iff_eq.mpr c34
                clear c34
                (first | rw [c34b0] | (simp only [i64_w, i32_w]; rw [c34b0]) | skip)
                have H' := Aside0.mk H
                clear H
                go_wp2
                repeat (go_quiet (fail); try go_wp2)
                go_meet
                case rel => exact ⟨_, (wrap64 (x15_3 + 1)), rs_, H', ⟨by have := HJ5.out; have := HK2.out; have := HK3.out; first | omega | exact Nat.le_refl _⟩, ⟨by (with_reducible repeat (first | apply Kd.R_alloc | apply Kd.R_drewN | apply Kd.R_drew)); exact HO_3.out⟩, ⟨by (with_reducible repeat (first | apply Kd.R_alloc | apply Kd.R_drewN | apply Kd.R_drew)); exact HO_6.out⟩, ⟨by (with_reducible repeat (first | apply Kd.R_alloc | apply Kd.R_drewN | apply Kd.R_drew)); exact HO_10.out⟩, ⟨by (with_reducible repeat (first | apply Kd.R_alloc | apply Kd.R_drewN | apply Kd.R_drew)); exact HO_12.out⟩, ⟨bl_⟩⟩
               ·rw [if_neg c34] at H
                have c34b0 : ((rdOf ByteArray.empty t274 x17_3).toList == (rdOf ByteArray.empty t274 x14_2).toList) = false := beq_eq_false_iff_ne.mpr c34
                have c34b1 : ((rdOf ByteArray.empty t274 x17_3).toList != (rdOf ByteArray.empty t274 x14_2).toList) = true := bne_iff_ne.mpr c34
                (first | rw [c34b0] | (simp only [i64_w, i32_w]; rw [c34b0]) | skip)
                have H' := Aside0.mk H
                clear H
                go_wp2
                repeat (go_quiet (fail); try go_wp2)
                go_meet
                case rel => exact ⟨_, (x15_3), rs_, H', ⟨by have := HJ5.out; have := HK2.out; have := HK3.out; first | omega | exact Nat.le_refl _⟩, ⟨by (with_reducible repeat (first | apply Kd.R_alloc | apply Kd.R_drewN | apply Kd.R_drew)); exact HO_3.out⟩, ⟨by (with_reducible repeat (first | apply Kd.R_alloc | apply Kd.R_drewN | apply Kd.R_drew)); exact HO_6.out⟩, ⟨by (with_reducible repeat (first | apply Kd.R_alloc | apply Kd.R_drewN | apply Kd.R_drew)); exact HO_10.out⟩, ⟨by (with_reducible repeat (first | apply Kd.R_alloc | apply Kd.R_drewN | apply Kd.R_drew)); exact HO_12.out⟩, ⟨bl_⟩⟩
              case rest => as_aux_lemma =>
               clear HC33
               try clear c1
               try clear c2
               try clear c2b0
               try clear c2b1
               try clear p2
               try clear q2
               try clear hx2
               try clear c3
               try clear c5
               try clear p6
               try clear c11
               try clear c11b0
               try clear c11b1
               try clear c11b2
               try clear c13
               try clear c18
               try clear c19
               try clear c19b0
               try clear c19b1
               try clear c19b2
               try clear c28
               try clear c28b0
               try clear c29
               try clear c29b0
               try clear p29
               try clear q29
               try clear hx29
               try clear c30
               try clear c30b0
               try clear c31
               try clear c31b0
               try clear c32
               try clear c32b0
               try clear c34
               try clear c34b0
               try clear c34b1
               try clear hx293_0
               try clear hx294_0
               try clear p2
               try clear p293
               try clear p294
               try clear q293
               try clear q294
               obtain ⟨kq, x15_32, rfl, HA, HJ32, HO_3, HO_6, HO_10, HO_12, HB⟩ := hcut
               cases kq with
               | zero => exact absurd HA.out (by simp [laws_FnListSort.j3])
               | succ kj32 =>
                have H := HA.out
                clear HA
                simp only [laws_FnListSort.j3] at H
                by_cases c35 : 0 ≤ x17_3
                ·rw [if_pos c35] at H
                 have c35b0 : decide (0 ≤ x17_3) = true := decide_eq_true c35
                 clear c35
                 by_cases c36 : x17_3 < (t269.length : Int)
                 ·rw [if_pos c36] at H
                  have c36b0 : decide (x17_3 < (t269.length : Int)) = true := decide_eq_true c36
                  clear c36
                  by_cases c37 : 0 ≤ x14_2
                  ·rw [if_pos c37] at H
                   have c37b0 : decide (0 ≤ x14_2) = true := decide_eq_true c37
                   clear c37
                   by_cases c38 : x14_2 < (t274.length : Int)
                   ·rw [if_pos c38] at H
                    have c38b0 : decide (x14_2 < (t274.length : Int)) = true := decide_eq_true c38
                    clear c38
                    by_cases c39 : (rdOf ByteArray.empty t269 x17_3).toList = (rdOf ByteArray.empty t274 x14_2).toList
                    ·rw [if_pos c39] at H
                     have c39b0 : ((rdOf ByteArray.empty t269 x17_3).toList == (rdOf ByteArray.empty t274 x14_2).toList) = true := beq_iff_eq.mpr c39
                     have c39b1 : ((rdOf ByteArray.empty t269 x17_3).toList != (rdOf ByteArray.empty t274 x14_2).toList) = false := bne_eq_false_iff_eq.mpr c39
                     clear c39
                     have H' := Aside0.mk H
                     clear H
                     have p295 : 0 ≤ (x17_3 : Int) := od_
                     have q295 : x17_3 < (t269.length : Int) := od_
                     obtain ⟨ad295, e295, hx295_0⟩ := Kd.at_string (Kd.R_reads' HO_3.out).2.2 x17_3 p295 q295
                     cases e295
                     replace p295 := eq_true p295
                     replace q295 := eq_true q295
                     have p296 : 0 ≤ (x14_2 : Int) := od_
                     have q296 : x14_2 < (t274.length : Int) := od_
                     obtain ⟨ad296, e296, hx296_0⟩ := Kd.at_string (Kd.R_reads' HO_6.out).2.2 x14_2 p296 q296
                     obtain rfl : ad293 = ad296 := (by injection e296)
                     replace p296 := eq_true p296
                     replace q296 := eq_true q296
                     go_wp2
                     repeat (go_quiet (fail); try go_wp2)
                     go_roundg kj32
                     case measure => have := HJ5.out; have := HK2.out; have := HK3.out; have := HJ32.out; omega
                     case rel => exact ⟨(x15_32), (wrap64 (x16_3 + 1)), (wrap64 (x17_3 + 1)), rs_, rs_, rs_, H', ⟨by have := HJ5.out; have := HK2.out; have := HK3.out; have := HJ32.out; omega⟩, ⟨by (with_reducible repeat (first | apply Kd.R_alloc | apply Kd.R_drewN | apply Kd.R_drew)); exact HO_3.out⟩, ⟨by (with_reducible repeat (first | apply Kd.R_alloc | apply Kd.R_drewN | apply Kd.R_drew)); exact HO_6.out⟩, ⟨by (with_reducible repeat (first | apply Kd.R_alloc | apply Kd.R_drewN | apply Kd.R_drew)); exact HO_10.out⟩, ⟨by (with_reducible repeat (first | apply Kd.R_alloc | apply Kd.R_drewN | apply Kd.R_drew)); exact HO_12.out⟩, ⟨bl_⟩⟩
                    ·rw [if_neg c39] at H
                     have c39b0 : ((rdOf ByteArray.empty t269 x17_3).toList == (rdOf ByteArray.empty t274 x14_2).toList) = false := beq_eq_false_iff_ne.mpr c39
                     have c39b1 : ((rdOf ByteArray.empty t269 x17_3).toList != (rdOf ByteArray.empty t274 x14_2).toList) = true := bne_iff_ne.mpr c39
                     have H' := Aside0.mk H
                     clear H
                     have p295 : 0 ≤ (x17_3 : Int) := od_
                     have q295 : x17_3 < (t269.length : Int) := od_
                     obtain ⟨ad295, e295, hx295_0⟩ := Kd.at_string (Kd.R_reads' HO_3.out).2.2 x17_3 p295 q295
                     cases e295
                     replace p295 := eq_true p295
                     replace q295 := eq_true q295
                     have p296 : 0 ≤ (x14_2 : Int) := od_
                     have q296 : x14_2 < (t274.length : Int) := od_
                     obtain ⟨ad296, e296, hx296_0⟩ := Kd.at_string (Kd.R_reads' HO_6.out).2.2 x14_2 p296 q296
                     obtain rfl : ad293 = ad296 := (by injection e296)
                     replace p296 := eq_true p296
                     replace q296 := eq_true q296
                     go_wp2
                     repeat (go_quiet (fail); try go_wp2)
                     go_roundg kj32
                     case measure => have := HJ5.out; have := HK2.out; have := HK3.out; have := HJ32.out; omega
                     case rel => exact ⟨(x15_32), (x16_3), (wrap64 (x17_3 + 1)), rs_, rs_, rs_, H', ⟨by have := HJ5.out; have := HK2.out; have := HK3.out; have := HJ32.out; omega⟩, ⟨by (with_reducible repeat (first | apply Kd.R_alloc | apply Kd.R_drewN | apply Kd.R_drew)); exact HO_3.out⟩, ⟨by (with_reducible repeat (first | apply Kd.R_alloc | apply Kd.R_drewN | apply Kd.R_drew)); exact HO_6.out⟩, ⟨by (with_reducible repeat (first | apply Kd.R_alloc | apply Kd.R_drewN | apply Kd.R_drew)); exact HO_10.out⟩, ⟨by (with_reducible repeat (first | apply Kd.R_alloc | apply Kd.R_drewN | apply Kd.R_drew)); exact HO_12.out⟩, ⟨bl_⟩⟩
                   ·rw [if_neg c38] at H
                    exact absurd H (by simp)
                  ·rw [if_neg c37] at H
                   exact absurd H (by simp)
                 ·rw [if_neg c36] at H
                  exact absurd H (by simp)
                ·rw [if_neg c35] at H
                 exact absurd H (by simp)
             ·rw [if_neg c32] at H
              exact absurd H (by simp)
            ·rw [if_neg c31] at H
             exact absurd H (by simp)
           ·rw [if_neg c30] at H
            exact absurd H (by simp)
          ·rw [if_neg c29] at H
           have c29b0 : decide (x17_3 < (t274.length : Int)) = false := decide_eq_false c29
           clear c29
           by_cases c40 : 0 ≤ x14_2
           ·rw [if_pos c40] at H
            have c40b0 : decide (0 ≤ x14_2) = true := decide_eq_true c40
            clear c40
            by_cases c41 : x14_2 < (t274.length : Int)
            ·rw [if_pos c41] at H
             have c41b0 : decide (x14_2 < (t274.length : Int)) = true := decide_eq_true c41
             clear c41
             replace H := Option.bind_eq_some_iff.mp H
             obtain ⟨⟨t298, t299⟩, A420, H⟩ := H
             replace H : (if x14_2 > 0 then (if 0 ≤ (wrap64 (x14_2 - 1)) then (if (wrap64 (x14_2 - 1)) < (t274.length : Int) then ((impl_IntGet.f (rdOf ByteArray.empty t274 (wrap64 (x14_2 - 1)))).bind fun bt301 => (laws_FnListSort.j4 k3 t269 t270 t271 t274 t284 t285 t288 t289 x14_2 x15_3 x16_3 t298 bt301.1)) else (none)) else (none)) else (laws_FnListSort.j4 k3 t269 t270 t271 t274 t284 t285 t288 t289 x14_2 x15_3 x16_3 t298 t298)) = some r := H
             have A42 := Aside0.mk A420
             clear A420
             have HC43 := Aside0.mk H
             clear H
             have p297 : 0 ≤ (x14_2 : Int) := od_
             have q297 : x14_2 < (t274.length : Int) := od_
             obtain ⟨ad297, e297, hx297_0⟩ := Kd.at_string (Kd.R_reads' HO_6.out).2.2 x14_2 p297 q297
             cases e297
             replace p297 := eq_true p297
             replace q297 := eq_true q297
             go_upto_if 124 with (first | (go_at_call 23; (with_reducible refine (impl_IntGet.calls (rdOf ByteArray.empty t274 x14_2) t298 t299 _ ?side1 A42.out).mono ?_); (case side1 => exact Glob.below HG.out bl_); rintro e w44 ⟨rfl, hb⟩; have n0_ := Aside0.mk (Kd.R_below (by (with_reducible repeat (first | apply Kd.R_alloc | apply Kd.R_drewN | apply Kd.R_drew)); exact HO_3.out) hb); have n1_ := Aside0.mk (Kd.R_below (by (with_reducible repeat (first | apply Kd.R_alloc | apply Kd.R_drewN | apply Kd.R_drew)); exact HO_6.out) hb); have n2_ := Aside0.mk (Kd.R_below (by (with_reducible repeat (first | apply Kd.R_alloc | apply Kd.R_drewN | apply Kd.R_drew)); exact HO_10.out) hb); have n3_ := Aside0.mk (Kd.R_below (by (with_reducible repeat (first | apply Kd.R_alloc | apply Kd.R_drewN | apply Kd.R_drew)); exact HO_12.out) hb); have n4_ := Aside0.mk (below_step bl_ hb); clear HO_3; clear HO_6; clear HO_10; clear HO_12; clear HB; have HO_3 := n0_; have HO_6 := n1_; have HO_10 := n2_; have HO_12 := n3_; have HB := n4_; clear n0_ n1_ n2_ n3_ n4_; (try clear hb); (try clear hb2); (try clear hk); (try clear hi)))
             repeat (go_quiet (first | (go_at_call 23; (with_reducible refine (impl_IntGet.calls (rdOf ByteArray.empty t274 x14_2) t298 t299 _ ?side1 A42.out).mono ?_); (case side1 => exact Glob.below HG.out bl_); rintro e w44 ⟨rfl, hb⟩; have n0_ := Aside0.mk (Kd.R_below (by (with_reducible repeat (first | apply Kd.R_alloc | apply Kd.R_drewN | apply Kd.R_drew)); exact HO_3.out) hb); have n1_ := Aside0.mk (Kd.R_below (by (with_reducible repeat (first | apply Kd.R_alloc | apply Kd.R_drewN | apply Kd.R_drew)); exact HO_6.out) hb); have n2_ := Aside0.mk (Kd.R_below (by (with_reducible repeat (first | apply Kd.R_alloc | apply Kd.R_drewN | apply Kd.R_drew)); exact HO_10.out) hb); have n3_ := Aside0.mk (Kd.R_below (by (with_reducible repeat (first | apply Kd.R_alloc | apply Kd.R_drewN | apply Kd.R_drew)); exact HO_12.out) hb); have n4_ := Aside0.mk (below_step bl_ hb); clear HO_3; clear HO_6; clear HO_10; clear HO_12; clear HB; have HO_3 := n0_; have HO_6 := n1_; have HO_10 := n2_; have HO_12 := n3_; have HB := n4_; clear n0_ n1_ n2_ n3_ n4_; (try clear hb); (try clear hb2); (try clear hk); (try clear hi))); go_upto_if 124 with (first | (go_at_call 23; (with_reducible refine (impl_IntGet.calls (rdOf ByteArray.empty t274 x14_2) t298 t299 _ ?side1 A42.out).mono ?_); (case side1 => exact Glob.below HG.out bl_); rintro e w44 ⟨rfl, hb⟩; have n0_ := Aside0.mk (Kd.R_below (by (with_reducible repeat (first | apply Kd.R_alloc | apply Kd.R_drewN | apply Kd.R_drew)); exact HO_3.out) hb); have n1_ := Aside0.mk (Kd.R_below (by (with_reducible repeat (first | apply Kd.R_alloc | apply Kd.R_drewN | apply Kd.R_drew)); exact HO_6.out) hb); have n2_ := Aside0.mk (Kd.R_below (by (with_reducible repeat (first | apply Kd.R_alloc | apply Kd.R_drewN | apply Kd.R_drew)); exact HO_10.out) hb); have n3_ := Aside0.mk (Kd.R_below (by (with_reducible repeat (first | apply Kd.R_alloc | apply Kd.R_drewN | apply Kd.R_drew)); exact HO_12.out) hb); have n4_ := Aside0.mk (below_step bl_ hb); clear HO_3; clear HO_6; clear HO_10; clear HO_12; clear HB; have HO_3 := n0_; have HO_6 := n1_; have HO_10 := n2_; have HO_12 := n3_; have HB := n4_; clear n0_ n1_ n2_ n3_ n4_; (try clear hb); (try clear hb2); (try clear hk); (try clear hi))))
             (try simp only [Act.put, List.setIfInBounds_toArray, List.set_cons_zero, List.set_cons_succ])
             go_cut [20] (fun v20 wc => ∃ (kq : Nat) (x20_42 : Int), v20 = .int .i64 x20_42 ∧ Aside0 (laws_FnListSort.j4 kq t269 t270 t271 t274 t284 t285 t288 t289 x14_2 x15_3 x16_3 t298 x20_42 = some r) ∧ Aside0 (kq ≤ k3) ∧ Aside0 (Kd.R Kd.string 9 wc w.heap.size (fun k_ => some k_ ≠ ((.slice (some ad297) t274.length co26) : Value).ownBlock ∧ some k_ ≠ (v286 : Value).ownBlock ∧ some k_ ≠ (v290 : Value).ownBlock) (.slice Ao8 t269.length co8) t269) ∧ Aside0 (Kd.R Kd.string 9 wc w.heap.size (fun k_ => some k_ ≠ ((.slice Ao8 t269.length co8) : Value).ownBlock ∧ some k_ ≠ (v286 : Value).ownBlock ∧ some k_ ≠ (v290 : Value).ownBlock) (.slice (some ad297) t274.length co26) t274) ∧ Aside0 (Kd.R Kd.string 9 wc w.heap.size (fun k_ => some k_ ≠ ((.slice Ao8 t269.length co8) : Value).ownBlock ∧ some k_ ≠ ((.slice (some ad297) t274.length co26) : Value).ownBlock ∧ some k_ ≠ (v290 : Value).ownBlock) v286 t284) ∧ Aside0 (Kd.R Kd.string 9 wc w.heap.size (fun k_ => some k_ ≠ ((.slice Ao8 t269.length co8) : Value).ownBlock ∧ some k_ ≠ ((.slice (some ad297) t274.length co26) : Value).ownBlock ∧ some k_ ≠ (v286 : Value).ownBlock) v290 t288) ∧ Aside0 (Below w.heap.size w wc))
             case first => as_aux_lemma =>
              have H := HC43.out
              clear HC43
              by_cases c45 : x14_2 > 0
              ·rw [if_pos c45] at H
               have c45b0 : decide (0 < x14_2) = true := decide_eq_true c45
               clear c45
               (first | rw [c45b0] | (simp only [i64_w, i32_w]; rw [c45b0]) | skip)
               obtain ⟨ji46, hji46⟩ : ∃ j_ : Int, (wrap64 (x14_2 - 1)) = j_ := ⟨_, rfl⟩
               replace H : (if 0 ≤ (ji46) then (if (ji46) < (t274.length : Int) then ((impl_IntGet.f (rdOf ByteArray.empty t274 (ji46))).bind fun bt301 => (laws_FnListSort.j4 k3 t269 t270 t271 t274 t284 t285 t288 t289 x14_2 x15_3 x16_3 t298 bt301.1)) else (none)) else (none)) = some r := by first | (rw [hji46] at H; exact H) | (simp only [hji46] at H ⊢; exact H)
               have hji46w : (IntKind.i64.wrap (x14_2 - 1)) = ji46 := (i64_w _).trans hji46
               by_cases c47 : 0 ≤ (ji46)
               ·rw [if_pos c47] at H
                have c47b0 : decide (0 ≤ (ji46)) = true := decide_eq_true c47
                clear c47
                by_cases c48 : (ji46) < (t274.length : Int)
                ·rw [if_pos c48] at H
                 have c48b0 : decide ((ji46) < (t274.length : Int)) = true := decide_eq_true c48
                 clear c48
                 replace H := Option.bind_eq_some_iff.mp H
                 obtain ⟨⟨t301, t302⟩, A490, H⟩ := H
                 replace H : (laws_FnListSort.j4 k3 t269 t270 t271 t274 t284 t285 t288 t289 x14_2 x15_3 x16_3 t298 t301) = some r := H
                 have A49 := Aside0.mk A490
                 clear A490
                 have H' := Aside0.mk H
                 clear H
                 have p300 : 0 ≤ ((ji46) : Int) := od_
                 have q300 : (ji46) < (t274.length : Int) := od_
                 obtain ⟨ad300, e300, hx300_0⟩ := Kd.at_string (Kd.R_reads' HO_6.out).2.2 (ji46) p300 q300
                 obtain rfl : ad297 = ad300 := (by injection e300)
                 replace p300 := eq_true p300
                 replace q300 := eq_true q300
                 go_wp2_with (first | (go_at_call 23; (with_reducible refine (impl_IntGet.calls (rdOf ByteArray.empty t274 (ji46)) t301 t302 _ ?side1 A49.out).mono ?_); (case side1 => exact Glob.below HG.out bl_); rintro e w50 ⟨rfl, hb⟩; have n0_ := Aside0.mk (Kd.R_below (by (with_reducible repeat (first | apply Kd.R_alloc | apply Kd.R_drewN | apply Kd.R_drew)); exact HO_3.out) hb); have n1_ := Aside0.mk (Kd.R_below (by (with_reducible repeat (first | apply Kd.R_alloc | apply Kd.R_drewN | apply Kd.R_drew)); exact HO_6.out) hb); have n2_ := Aside0.mk (Kd.R_below (by (with_reducible repeat (first | apply Kd.R_alloc | apply Kd.R_drewN | apply Kd.R_drew)); exact HO_10.out) hb); have n3_ := Aside0.mk (Kd.R_below (by (with_reducible repeat (first | apply Kd.R_alloc | apply Kd.R_drewN | apply Kd.R_drew)); exact HO_12.out) hb); have n4_ := Aside0.mk (below_step bl_ hb); clear HO_3; clear HO_6; clear HO_10; clear HO_12; clear HB; have HO_3 := n0_; have HO_6 := n1_; have HO_10 := n2_; have HO_12 := n3_; have HB := n4_; clear n0_ n1_ n2_ n3_ n4_; (try clear hb); (try clear hb2); (try clear hk); (try clear hi)))
                 repeat (go_quiet (first | (go_at_call 23; (with_reducible refine (impl_IntGet.calls (rdOf ByteArray.empty t274 (ji46)) t301 t302 _ ?side1 A49.out).mono ?_); (case side1 => exact Glob.below HG.out bl_); rintro e w50 ⟨rfl, hb⟩; have n0_ := Aside0.mk (Kd.R_below (by (with_reducible repeat (first | apply Kd.R_alloc | apply Kd.R_drewN | apply Kd.R_drew)); exact HO_3.out) hb); have n1_ := Aside0.mk (Kd.R_below (by (with_reducible repeat (first | apply Kd.R_alloc | apply Kd.R_drewN | apply Kd.R_drew)); exact HO_6.out) hb); have n2_ := Aside0.mk (Kd.R_below (by (with_reducible repeat (first | apply Kd.R_alloc | apply Kd.R_drewN | apply Kd.R_drew)); exact HO_10.out) hb); have n3_ := Aside0.mk (Kd.R_below (by (with_reducible repeat (first | apply Kd.R_alloc | apply Kd.R_drewN | apply Kd.R_drew)); exact HO_12.out) hb); have n4_ := Aside0.mk (below_step bl_ hb); clear HO_3; clear HO_6; clear HO_10; clear HO_12; clear HB; have HO_3 := n0_; have HO_6 := n1_; have HO_10 := n2_; have HO_12 := n3_; have HB := n4_; clear n0_ n1_ n2_ n3_ n4_; (try clear hb); (try clear hb2); (try clear hk); (try clear hi))); try go_wp2_with (first | (go_at_call 23; (with_reducible refine (impl_IntGet.calls (rdOf ByteArray.empty t274 (ji46)) t301 t302 _ ?side1 A49.out).mono ?_); (case side1 => exact Glob.below HG.out bl_); rintro e w50 ⟨rfl, hb⟩; have n0_ := Aside0.mk (Kd.R_below (by (with_reducible repeat (first | apply Kd.R_alloc | apply Kd.R_drewN | apply Kd.R_drew)); exact HO_3.out) hb); have n1_ := Aside0.mk (Kd.R_below (by (with_reducible repeat (first | apply Kd.R_alloc | apply Kd.R_drewN | apply Kd.R_drew)); exact HO_6.out) hb); have n2_ := Aside0.mk (Kd.R_below (by (with_reducible repeat (first | apply Kd.R_alloc | apply Kd.R_drewN | apply Kd.R_drew)); exact HO_10.out) hb); have n3_ := Aside0.mk (Kd.R_below (by (with_reducible repeat (first | apply Kd.R_alloc | apply Kd.R_drewN | apply Kd.R_drew)); exact HO_12.out) hb); have n4_ := Aside0.mk (below_step bl_ hb); clear HO_3; clear HO_6; clear HO_10; clear HO_12; clear HB; have HO_3 := n0_; have HO_6 := n1_; have HO_10 := n2_; have HO_12 := n3_; have HB := n4_; clear n0_ n1_ n2_ n3_ n4_; (try clear hb); (try clear hb2); (try clear hk); (try clear hi))))
                 go_meet
                 case rel => exact ⟨_, (t301), rs_, H', ⟨by have := HJ5.out; have := HK2.out; have := HK3.out; first | omega | exact Nat.le_refl _⟩, ⟨by (with_reducible repeat (first | apply Kd.R_alloc | apply Kd.R_drewN | apply Kd.R_drew)); exact HO_3.out⟩, ⟨by (with_reducible repeat (first | apply Kd.R_alloc | apply Kd.R_drewN | apply Kd.R_drew)); exact HO_6.out⟩, ⟨by (with_reducible repeat (first | apply Kd.R_alloc | apply Kd.R_drewN | apply Kd.R_drew)); exact HO_10.out⟩, ⟨by (with_reducible repeat (first | apply Kd.R_alloc | apply Kd.R_drewN | apply Kd.R_drew)); exact HO_12.out⟩, ⟨bl_⟩⟩
                ·rw [if_neg c48] at H
                 exact absurd H (by simp)
               ·rw [if_neg c47] at H
                exact absurd H (by simp)
              ·rw [if_neg c45] at H
               have c45b0 : decide (0 < x14_2) = false := decide_eq_false c45
               clear c45
               (first | rw [c45b0] | (simp only [i64_w, i32_w]; rw [c45b0]) | skip)
               have H' := Aside0.mk H
               clear H
               go_wp2
               repeat (go_quiet (fail); try go_wp2)
               go_meet
               case rel => exact ⟨_, (t298), rs_, H', ⟨by have := HJ5.out; have := HK2.out; have := HK3.out; first | omega | exact Nat.le_refl _⟩, ⟨by (with_reducible repeat (first | apply Kd.R_alloc | apply Kd.R_drewN | apply Kd.R_drew)); exact HO_3.out⟩, ⟨by (with_reducible repeat (first | apply Kd.R_alloc | apply Kd.R_drewN | apply Kd.R_drew)); exact HO_6.out⟩, ⟨by (with_reducible repeat (first | apply Kd.R_alloc | apply Kd.R_drewN | apply Kd.R_drew)); exact HO_10.out⟩, ⟨by (with_reducible repeat (first | apply Kd.R_alloc | apply Kd.R_drewN | apply Kd.R_drew)); exact HO_12.out⟩, ⟨bl_⟩⟩
             case rest => as_aux_lemma =>
              clear HC43
              try clear c1
              try clear c2
              try clear c2b0
              try clear c2b1
              try clear p2
              try clear q2
              try clear hx2
              try clear c3
              try clear p3
              try clear q3
              try clear hx3
              try clear c4
              try clear c5
              try clear p6
              try clear c11
              try clear c11b0
              try clear c11b1
              try clear c11b2
              try clear c13
              try clear c18
              try clear c19
              try clear c19b0
              try clear c19b1
              try clear c19b2
              try clear c28
              try clear c28b0
              try clear c29
              try clear c29b0
              try clear p29
              try clear q29
              try clear hx29
              try clear c30
              try clear c30b0
              try clear p30
              try clear q30
              try clear hx30
              try clear c31
              try clear c31b0
              try clear c32
              try clear c32b0
              try clear c34
              try clear c34b0
              try clear c34b1
              try clear c35
              try clear c35b0
              try clear c36
              try clear c36b0
              try clear c37
              try clear c37b0
              try clear c38
              try clear c38b0
              try clear c39
              try clear c39b0
              try clear c39b1
              try clear c40
              try clear c40b0
              try clear c41
              try clear c41b0
              try clear c45
              try clear c45b0
              try clear c47
              try clear c47b0
              try clear c48
              try clear c48b0
              try clear hx293_0
              try clear hx294_0
              try clear hx295_0
              try clear hx296_0
              try clear hx297_0
              try clear hx300_0
              try clear p2
              try clear p29
              try clear p293
              try clear p294
              try clear p295
              try clear p296
              try clear p297
              try clear p300
              try clear p6
              try clear q2
              try clear q29
              try clear q293
              try clear q294
              try clear q295
              try clear q296
              try clear q297
              try clear q300
              obtain ⟨kq, x20_42, rfl, HA, HJ42, HO_3, HO_6, HO_10, HO_12, HB⟩ := hcut
              cases kq with
              | zero => exact absurd HA.out (by simp [laws_FnListSort.j4])
              | succ kj42 =>
               have H := HA.out
               clear HA
               simp only [laws_FnListSort.j4] at H
               have HC51 := Aside0.mk H
               clear H
               go_upto_region 26 with (fail)
               repeat (go_quiet (fail); go_upto_region 26 with (fail))
               go_cut [210] (fun v210 wc => ∃ (kq : Nat) (x210_50 : Bool), v210 = .bool x210_50 ∧ Aside0 (laws_FnListSort.j5 kq t269 t270 t271 t274 t284 t285 t288 t289 x14_2 x210_50 = some r) ∧ Aside0 (kq ≤ kj42) ∧ Aside0 (Kd.R Kd.string 9 wc w.heap.size (fun k_ => some k_ ≠ ((.slice (some ad297) t274.length co26) : Value).ownBlock ∧ some k_ ≠ (v286 : Value).ownBlock ∧ some k_ ≠ (v290 : Value).ownBlock) (.slice Ao8 t269.length co8) t269) ∧ Aside0 (Kd.R Kd.string 9 wc w.heap.size (fun k_ => some k_ ≠ ((.slice Ao8 t269.length co8) : Value).ownBlock ∧ some k_ ≠ (v286 : Value).ownBlock ∧ some k_ ≠ (v290 : Value).ownBlock) (.slice (some ad297) t274.length co26) t274) ∧ Aside0 (Kd.R Kd.string 9 wc w.heap.size (fun k_ => some k_ ≠ ((.slice Ao8 t269.length co8) : Value).ownBlock ∧ some k_ ≠ ((.slice (some ad297) t274.length co26) : Value).ownBlock ∧ some k_ ≠ (v290 : Value).ownBlock) v286 t284) ∧ Aside0 (Kd.R Kd.string 9 wc w.heap.size (fun k_ => some k_ ≠ ((.slice Ao8 t269.length co8) : Value).ownBlock ∧ some k_ ≠ ((.slice (some ad297) t274.length co26) : Value).ownBlock ∧ some k_ ≠ (v286 : Value).ownBlock) v290 t288) ∧ Aside0 (Below w.heap.size w wc))
               case first => as_aux_lemma =>
                have H := HC51.out
                clear HC51
                by_cases c52 : x15_3 = x16_3
                ·rw [if_pos c52] at H
                 have c52b0 : (x15_3 == x16_3) = true := beq_iff_eq.mpr c52
                 have c52b1 : (x15_3 != x16_3) = false := bne_eq_false_iff_eq.mpr c52
                 clear c52
                 (first | rw [c52b0] | (simp only [i64_w, i32_w]; rw [c52b0]) | skip)
                 by_cases c53 : 0 ≤ x14_2
                 ·rw [if_pos c53] at H
                  have c53b0 : decide (0 ≤ x14_2) = true := decide_eq_true c53
                  clear c53
                  by_cases c54 : x14_2 < (t274.length : Int)
                  ·rw [if_pos c54] at H
                   have c54b0 : decide (x14_2 < (t274.length : Int)) = true := decide_eq_true c54
                   clear c54
                   obtain ⟨ji55, hji55⟩ : ∃ j_ : Int, (wrap64 ((wrap64 ((t284.length : Int) - 1)) - x14_2)) = j_ := ⟨_, rfl⟩
                   replace H : (if 0 ≤ (ji55) then (if (ji55) < (t284.length : Int) then (if (rdOf ByteArray.empty t274 x14_2).toList = (rdOf ByteArray.empty t284 (ji55)).toList then (if t270 = true then (if t271 = true then (if x20_42 < t298 then (laws_FnListSort.j5 kj42 t269 t270 t271 t274 t284 t285 t288 t289 x14_2 true) else (laws_FnListSort.j5 kj42 t269 t270 t271 t274 t284 t285 t288 t289 x14_2 false)) else (if x20_42 > t298 then (laws_FnListSort.j5 kj42 t269 t270 t271 t274 t284 t285 t288 t289 x14_2 true) else (laws_FnListSort.j5 kj42 t269 t270 t271 t274 t284 t285 t288 t289 x14_2 false))) else (if x14_2 > 0 then (if t271 = true then (if 0 ≤ (wrap64 (x14_2 - 1)) then (if (wrap64 (x14_2 - 1)) < (t274.length : Int) then (if (Op.bytesLess ((rdOf ByteArray.empty t274 (wrap64 (x14_2 - 1))).toList) ((rdOf ByteArray.empty t274 x14_2).toList)) = true then (laws_FnListSort.j5 kj42 t269 t270 t271 t274 t284 t285 t288 t289 x14_2 true) else (laws_FnListSort.j5 kj42 t269 t270 t271 t274 t284 t285 t288 t289 x14_2 false)) else (none)) else (none)) else (if 0 ≤ (wrap64 (x14_2 - 1)) then (if (wrap64 (x14_2 - 1)) < (t274.length : Int) then (laws_FnListSort.j5 kj42 t269 t270 t271 t274 t284 t285 t288 t289 x14_2 (Op.bytesLess ((rdOf ByteArray.empty t274 x14_2).toList) ((rdOf ByteArray.empty t274 (wrap64 (x14_2 - 1))).toList))) else (none)) else (none))) else (laws_FnListSort.j5 kj42 t269 t270 t271 t274 t284 t285 t288 t289 x14_2 false))) else (laws_FnListSort.j5 kj42 t269 t270 t271 t274 t284 t285 t288 t289 x14_2 true)) else (none)) else (none)) = some r := by first | (rw [hji55] at H; exact H) | (simp only [hji55] at H ⊢; exact H)
                   have hji55w : (IntKind.i64.wrap ((wrap64 ((t284.length : Int) - 1)) - x14_2)) = ji55 := (i64_w _).trans hji55
                   by_cases c56 : 0 ≤ (ji55)
                   ·rw [if_pos c56] at H
                    have c56b0 : decide (0 ≤ (ji55)) = true := decide_eq_true c56
                    clear c56
                    by_cases c57 : (ji55) < (t284.length : Int)
                    ·rw [if_pos c57] at H
                     have c57b0 : decide ((ji55) < (t284.length : Int)) = true := decide_eq_true c57
                     clear c57
                     by_cases c58 : (rdOf ByteArray.empty t274 x14_2).toList = (rdOf ByteArray.empty t284 (ji55)).toList
                     ·rw [if_pos c58] at H
                      have c58b0 : ((rdOf ByteArray.empty t274 x14_2).toList == (rdOf ByteArray.empty t284 (ji55)).toList) = true := beq_iff_eq.mpr c58
                      have c58b1 : ((rdOf ByteArray.empty t274 x14_2).toList != (rdOf ByteArray.empty t284 (ji55)).toList) = false := bne_eq_false_iff_eq.mpr c58
                      clear c58
                      by_cases c59 : t270 = true
                      ·subst c59
                       have H1 : (if t271 = true then (if x20_42 < t298 then (laws_FnListSort.j5 kj42 t269 true t271 t274 t284 t285 t288 t289 x14_2 true) else (laws_FnListSort.j5 kj42 t269 true t271 t274 t284 t285 t288 t289 x14_2 false)) else (if x20_42 > t298 then (laws_FnListSort.j5 kj42 t269 true t271 t274 t284 t285 t288 t289 x14_2 true) else (laws_FnListSort.j5 kj42 t269 true t271 t274 t284 t285 t288 t289 x14_2 false))) = some r := by rw [if_pos rfl] at H; exact H
                       clear H
                       have H := H1
                       clear H1
                       by_cases c60 : t271 = true
                       ·subst c60
                        have H1 : (if x20_42 < t298 then (laws_FnListSort.j5 kj42 t269 true true t274 t284 t285 t288 t289 x14_2 true) else (laws_FnListSort.j5 kj42 t269 true true t274 t284 t285 t288 t289 x14_2 false)) = some r := by rw [if_pos rfl] at H; exact H
                        clear H
                        have H := H1
                        clear H1
                        by_cases c61 : x20_42 < t298
                        ·as_aux_lemma =>
                         rw [if_pos c61] at H
                         have c61b0 : decide (x20_42 < t298) = true := decide_eq_true c61
                         clear c61
                         have H' := Aside0.mk H
                         clear H
                         have p303 : 0 ≤ (x14_2 : Int) := od_
                         have q303 : x14_2 < (t274.length : Int) := od_
                         obtain ⟨ad303, e303, hx303_0⟩ := Kd.at_string (Kd.R_reads' HO_6.out).2.2 x14_2 p303 q303
                         obtain rfl : ad297 = ad303 := (by injection e303)
                         replace p303 := eq_true p303
                         replace q303 := eq_true q303
                         obtain ⟨Ao62, co62, eo62⟩ := Kd.R_slice HO_10.out
                         subst eo62
                         have p304 : 0 ≤ ((ji55) : Int) := od_
                         have q304 : (ji55) < (t284.length : Int) := od_
                         obtain ⟨ad304, e304, hx304_0⟩ := Kd.at_string (Kd.R_reads' HO_10.out).2.2 (ji55) p304 q304
                         cases e304
                         replace p304 := eq_true p304
                         replace q304 := eq_true q304
                         go_wp2
                         repeat (go_quiet (fail); try go_wp2)
                         go_meet
                         case rel => exact ⟨_, (true), rs_, H', ⟨by have := HJ5.out; have := HK2.out; have := HK3.out; have := HJ42.out; first | omega | exact Nat.le_refl _⟩, ⟨by (with_reducible repeat (first | apply Kd.R_alloc | apply Kd.R_drewN | apply Kd.R_drew)); exact HO_3.out⟩, ⟨by (with_reducible repeat (first | apply Kd.R_alloc | apply Kd.R_drewN | apply Kd.R_drew)); exact HO_6.out⟩, ⟨by (with_reducible repeat (first | apply Kd.R_alloc | apply Kd.R_drewN | apply Kd.R_drew)); exact HO_10.out⟩, ⟨by (with_reducible repeat (first | apply Kd.R_alloc | apply Kd.R_drewN | apply Kd.R_drew)); exact HO_12.out⟩, ⟨bl_⟩⟩
                        ·as_aux_lemma =>
                         rw [if_neg c61] at H
                         have c61b0 : decide (x20_42 < t298) = false := decide_eq_false c61
                         clear c61
                         have H' := Aside0.mk H
                         clear H
                         have p303 : 0 ≤ (x14_2 : Int) := od_
                         have q303 : x14_2 < (t274.length : Int) := od_
                         obtain ⟨ad303, e303, hx303_0⟩ := Kd.at_string (Kd.R_reads' HO_6.out).2.2 x14_2 p303 q303
                         obtain rfl : ad297 = ad303 := (by injection e303)
                         replace p303 := eq_true p303
                         replace q303 := eq_true q303
                         obtain ⟨Ao63, co63, eo63⟩ := Kd.R_slice HO_10.out
                         subst eo63
                         have p304 : 0 ≤ ((ji55) : Int) := od_
                         have q304 : (ji55) < (t284.length : Int) := od_
                         obtain ⟨ad304, e304, hx304_0⟩ := Kd.at_string (Kd.R_reads' HO_10.out).2.2 (ji55) p304 q304
                         cases e304
                         replace p304 := eq_true p304
                         replace q304 := eq_true q304
                         go_wp2
                         repeat (go_quiet (fail); try go_wp2)
                         go_meet
                         case rel => exact ⟨_, (false), rs_, H', ⟨by have := HJ5.out; have := HK2.out; have := HK3.out; have := HJ42.out; first | omega | exact Nat.le_refl _⟩, ⟨by (with_reducible repeat (first | apply Kd.R_alloc | apply Kd.R_drewN | apply Kd.R_drew)); exact HO_3.out⟩, ⟨by (with_reducible repeat (first | apply Kd.R_alloc | apply Kd.R_drewN | apply Kd.R_drew)); exact HO_6.out⟩, ⟨by (with_reducible repeat (first | apply Kd.R_alloc | apply Kd.R_drewN | apply Kd.R_drew)); exact HO_10.out⟩, ⟨by (with_reducible repeat (first | apply Kd.R_alloc | apply Kd.R_drewN | apply Kd.R_drew)); exact HO_12.out⟩, ⟨bl_⟩⟩
                       ·replace c60 := Bool.eq_false_iff.mpr c60
                        subst c60
                        have H1 : (if x20_42 > t298 then (laws_FnListSort.j5 kj42 t269 true false t274 t284 t285 t288 t289 x14_2 true) else (laws_FnListSort.j5 kj42 t269 true false t274 t284 t285 t288 t289 x14_2 false)) = some r := by rw [if_neg (show ¬ (false = true) by decide)] at H; exact H
                        clear H
                        have H := H1
                        clear H1
                        by_cases c64 : x20_42 > t298
                        ·as_aux_lemma =>
                         rw [if_pos c64] at H
                         have c64b0 : decide (t298 < x20_42) = true := decide_eq_true c64
                         clear c64
                         have H' := Aside0.mk H
                         clear H
                         have p303 : 0 ≤ (x14_2 : Int) := od_
                         have q303 : x14_2 < (t274.length : Int) := od_
                         obtain ⟨ad303, e303, hx303_0⟩ := Kd.at_string (Kd.R_reads' HO_6.out).2.2 x14_2 p303 q303
                         obtain rfl : ad297 = ad303 := (by injection e303)
                         replace p303 := eq_true p303
                         replace q303 := eq_true q303
                         obtain ⟨Ao65, co65, eo65⟩ := Kd.R_slice HO_10.out
                         subst eo65
                         have p304 : 0 ≤ ((ji55) : Int) := od_
                         have q304 : (ji55) < (t284.length : Int) := od_
                         obtain ⟨ad304, e304, hx304_0⟩ := Kd.at_string (Kd.R_reads' HO_10.out).2.2 (ji55) p304 q304
                         cases e304
                         replace p304 := eq_true p304
                         replace q304 := eq_true q304
                         go_wp2
                         repeat (go_quiet (fail); try go_wp2)
                         go_meet
                         case rel => exact ⟨_, (true), rs_, H', ⟨by have := HJ5.out; have := HK2.out; have := HK3.out; have := HJ42.out; first | omega | exact Nat.le_refl _⟩, ⟨by (with_reducible repeat (first | apply Kd.R_alloc | apply Kd.R_drewN | apply Kd.R_drew)); exact HO_3.out⟩, ⟨by (with_reducible repeat (first | apply Kd.R_alloc | apply Kd.R_drewN | apply Kd.R_drew)); exact HO_6.out⟩, ⟨by (with_reducible repeat (first | apply Kd.R_alloc | apply Kd.R_drewN | apply Kd.R_drew)); exact HO_10.out⟩, ⟨by (with_reducible repeat (first | apply Kd.R_alloc | apply Kd.R_drewN | apply Kd.R_drew)); exact HO_12.out⟩, ⟨bl_⟩⟩
                        ·as_aux_lemma =>
                         rw [if_neg c64] at H
                         have c64b0 : decide (t298 < x20_42) = false := decide_eq_false c64
                         clear c64
                         have H' := Aside0.mk H
                         clear H
                         have p303 : 0 ≤ (x14_2 : Int) := od_
                         have q303 : x14_2 < (t274.length : Int) := od_
                         obtain ⟨ad303, e303, hx303_0⟩ := Kd.at_string (Kd.R_reads' HO_6.out).2.2 x14_2 p303 q303
                         obtain rfl : ad297 = ad303 := (by injection e303)
                         replace p303 := eq_true p303
                         replace q303 := eq_true q303
                         obtain ⟨Ao66, co66, eo66⟩ := Kd.R_slice HO_10.out
                         subst eo66
                         have p304 : 0 ≤ ((ji55) : Int) := od_
                         have q304 : (ji55) < (t284.length : Int) := od_
                         obtain ⟨ad304, e304, hx304_0⟩ := Kd.at_string (Kd.R_reads' HO_10.out).2.2 (ji55) p304 q304
                         cases e304
                         replace p304 := eq_true p304
                         replace q304 := eq_true q304
                         go_wp2
                         repeat (go_quiet (fail); try go_wp2)
                         go_meet
                         case rel => exact ⟨_, (false), rs_, H', ⟨by have := HJ5.out; have := HK2.out; have := HK3.out; have := HJ42.out; first | omega | exact Nat.le_refl _⟩, ⟨by (with_reducible repeat (first | apply Kd.R_alloc | apply Kd.R_drewN | apply Kd.R_drew)); exact HO_3.out⟩, ⟨by (with_reducible repeat (first | apply Kd.R_alloc | apply Kd.R_drewN | apply Kd.R_drew)); exact HO_6.out⟩, ⟨by (with_reducible repeat (first | apply Kd.R_alloc | apply Kd.R_drewN | apply Kd.R_drew)); exact HO_10.out⟩, ⟨by (with_reducible repeat (first | apply Kd.R_alloc | apply Kd.R_drewN | apply Kd.R_drew)); exact HO_12.out⟩, ⟨bl_⟩⟩
                      ·replace c59 := Bool.eq_false_iff.mpr c59
                       subst c59
                       have H1 : (if x14_2 > 0 then (if t271 = true then (if 0 ≤ (wrap64 (x14_2 - 1)) then (if (wrap64 (x14_2 - 1)) < (t274.length : Int) then (if (Op.bytesLess ((rdOf ByteArray.empty t274 (wrap64 (x14_2 - 1))).toList) ((rdOf ByteArray.empty t274 x14_2).toList)) = true then (laws_FnListSort.j5 kj42 t269 false t271 t274 t284 t285 t288 t289 x14_2 true) else (laws_FnListSort.j5 kj42 t269 false t271 t274 t284 t285 t288 t289 x14_2 false)) else (none)) else (none)) else (if 0 ≤ (wrap64 (x14_2 - 1)) then (if (wrap64 (x14_2 - 1)) < (t274.length : Int) then (laws_FnListSort.j5 kj42 t269 false t271 t274 t284 t285 t288 t289 x14_2 (Op.bytesLess ((rdOf ByteArray.empty t274 x14_2).toList) ((rdOf ByteArray.empty t274 (wrap64 (x14_2 - 1))).toList))) else (none)) else (none))) else (laws_FnListSort.j5 kj42 t269 false t271 t274 t284 t285 t288 t289 x14_2 false)) = some r := by rw [if_neg (show ¬ (false = true) by decide)] at H; exact H
                       clear H
                       have H := H1
                       clear H1
                       by_cases c67 : x14_2 > 0
                       ·rw [if_pos c67] at H
                        have c67b0 : decide (0 < x14_2) = true := decide_eq_true c67
                        clear c67
                        by_cases c68 : t271 = true
                        ·subst c68
                         have H1 : (if 0 ≤ (wrap64 (x14_2 - 1)) then (if (wrap64 (x14_2 - 1)) < (t274.length : Int) then (if (Op.bytesLess ((rdOf ByteArray.empty t274 (wrap64 (x14_2 - 1))).toList) ((rdOf ByteArray.empty t274 x14_2).toList)) = true then (laws_FnListSort.j5 kj42 t269 false true t274 t284 t285 t288 t289 x14_2 true) else (laws_FnListSort.j5 kj42 t269 false true t274 t284 t285 t288 t289 x14_2 false)) else (none)) else (none)) = some r := by rw [if_pos rfl] at H; exact H
                         clear H
                         have H := H1
                         clear H1
                         obtain ⟨ji69, hji69⟩ : ∃ j_ : Int, (wrap64 (x14_2 - 1)) = j_ := ⟨_, rfl⟩
                         replace H : (if 0 ≤ (ji69) then (if (ji69) < (t274.length : Int) then (if (Op.bytesLess ((rdOf ByteArray.empty t274 (ji69)).toList) ((rdOf ByteArray.empty t274 x14_2).toList)) = true then (laws_FnListSort.j5 kj42 t269 false true t274 t284 t285 t288 t289 x14_2 true) else (laws_FnListSort.j5 kj42 t269 false true t274 t284 t285 t288 t289 x14_2 false)) else (none)) else (none)) = some r := by first | (rw [hji69] at H; exact H) | (simp only [hji69] at H ⊢; exact H)
                         have hji69w : (IntKind.i64.wrap (x14_2 - 1)) = ji69 := (i64_w _).trans hji69
                         by_cases c70 : 0 ≤ (ji69)
                         ·rw [if_pos c70] at H
                          have c70b0 : decide (0 ≤ (ji69)) = true := decide_eq_true c70
                          clear c70
                          by_cases c71 : (ji69) < (t274.length : Int)
                          ·rw [if_pos c71] at H
                           have c71b0 : decide ((ji69) < (t274.length : Int)) = true := decide_eq_true c71
                           clear c71
                           by_cases c72 : (Op.bytesLess ((rdOf ByteArray.empty t274 (ji69)).toList) ((rdOf ByteArray.empty t274 x14_2).toList)) = true
                           ·as_aux_lemma =>
                            rw [if_pos c72] at H
                            have c72b0 : (Op.bytesLess ((rdOf ByteArray.empty t274 (ji69)).toList) ((rdOf ByteArray.empty t274 x14_2).toList)) = true := c72
                            (try (have c72b1 : Op.bytesLess ((rdOf ByteArray.empty t274 x14_2).toList) ((rdOf ByteArray.empty t274 (ji69)).toList) = false := sLess_asym c72))
                            (try (have c72b2 : (((rdOf ByteArray.empty t274 x14_2).toList) == ((rdOf ByteArray.empty t274 (ji69)).toList)) = false := sLess_ne c72))
                            clear c72
                            have H' := Aside0.mk H
                            clear H
                            have p303 : 0 ≤ (x14_2 : Int) := od_
                            have q303 : x14_2 < (t274.length : Int) := od_
                            obtain ⟨ad303, e303, hx303_0⟩ := Kd.at_string (Kd.R_reads' HO_6.out).2.2 x14_2 p303 q303
                            obtain rfl : ad297 = ad303 := (by injection e303)
                            replace p303 := eq_true p303
                            replace q303 := eq_true q303
                            obtain ⟨Ao73, co73, eo73⟩ := Kd.R_slice HO_10.out
                            subst eo73
                            have p304 : 0 ≤ ((ji55) : Int) := od_
                            have q304 : (ji55) < (t284.length : Int) := od_
                            obtain ⟨ad304, e304, hx304_0⟩ := Kd.at_string (Kd.R_reads' HO_10.out).2.2 (ji55) p304 q304
                            cases e304
                            replace p304 := eq_true p304
                            replace q304 := eq_true q304
                            have p305 : 0 ≤ ((ji69) : Int) := od_
                            have q305 : (ji69) < (t274.length : Int) := od_
                            obtain ⟨ad305, e305, hx305_0⟩ := Kd.at_string (Kd.R_reads' HO_6.out).2.2 (ji69) p305 q305
                            obtain rfl : ad297 = ad305 := (by injection e305)
                            replace p305 := eq_true p305
                            replace q305 := eq_true q305
                            have p306 : 0 ≤ (x14_2 : Int) := od_
                            have q306 : x14_2 < (t274.length : Int) := od_
                            obtain ⟨ad306, e306, hx306_0⟩ := Kd.at_string (Kd.R_reads' HO_6.out).2.2 x14_2 p306 q306
                            obtain rfl : ad297 = ad306 := (by injection e306)
                            replace p306 := eq_true p306
                            replace q306 := eq_true q306
                            go_wp2
                            repeat (go_quiet (fail); try go_wp2)
                            go_meet
                            case rel => exact ⟨_, (true), rs_, H', ⟨by have := HJ5.out; have := HK2.out; have := HK3.out; have := HJ42.out; first | omega | exact Nat.le_refl _⟩, ⟨by (with_reducible repeat (first | apply Kd.R_alloc | apply Kd.R_drewN | apply Kd.R_drew)); exact HO_3.out⟩, ⟨by (with_reducible repeat (first | apply Kd.R_alloc | apply Kd.R_drewN | apply Kd.R_drew)); exact HO_6.out⟩, ⟨by (with_reducible repeat (first | apply Kd.R_alloc | apply Kd.R_drewN | apply Kd.R_drew)); exact HO_10.out⟩, ⟨by (with_reducible repeat (first | apply Kd.R_alloc | apply Kd.R_drewN | apply Kd.R_drew)); exact HO_12.out⟩, ⟨bl_⟩⟩
                           ·as_aux_lemma =>
                            rw [if_neg c72] at H
                            have c72b0 : (Op.bytesLess ((rdOf ByteArray.empty t274 (ji69)).toList) ((rdOf ByteArray.empty t274 x14_2).toList)) = false := by simpa using c72
                            (try (have c72b1 : (!Op.bytesLess ((rdOf ByteArray.empty t274 x14_2).toList) ((rdOf ByteArray.empty t274 (ji69)).toList) && !(((rdOf ByteArray.empty t274 x14_2).toList) == ((rdOf ByteArray.empty t274 (ji69)).toList))) = false := sLess_tot c72))
                            (try (have c72b2 : (((rdOf ByteArray.empty t274 x14_2).toList) == ((rdOf ByteArray.empty t274 (ji69)).toList)) = true := sLess_beq c72 (by assumption)))
                            clear c72
                            have H' := Aside0.mk H
                            clear H
                            have p303 : 0 ≤ (x14_2 : Int) := od_
                            have q303 : x14_2 < (t274.length : Int) := od_
                            obtain ⟨ad303, e303, hx303_0⟩ := Kd.at_string (Kd.R_reads' HO_6.out).2.2 x14_2 p303 q303
                            obtain rfl : ad297 = ad303 := (by injection e303)
                            replace p303 := eq_true p303
                            replace q303 := eq_true q303
                            obtain ⟨Ao74, co74, eo74⟩ := Kd.R_slice HO_10.out
                            subst eo74
                            have p304 : 0 ≤ ((ji55) : Int) := od_
                            have q304 : (ji55) < (t284.length : Int) := od_
                            obtain ⟨ad304, e304, hx304_0⟩ := Kd.at_string (Kd.R_reads' HO_10.out).2.2 (ji55) p304 q304
                            cases e304
                            replace p304 := eq_true p304
                            replace q304 := eq_true q304
                            have p305 : 0 ≤ ((ji69) : Int) := od_
                            have q305 : (ji69) < (t274.length : Int) := od_
                            obtain ⟨ad305, e305, hx305_0⟩ := Kd.at_string (Kd.R_reads' HO_6.out).2.2 (ji69) p305 q305
                            obtain rfl : ad297 = ad305 := (by injection e305)
                            replace p305 := eq_true p305
                            replace q305 := eq_true q305
                            have p306 : 0 ≤ (x14_2 : Int) := od_
                            have q306 : x14_2 < (t274.length : Int) := od_
                            obtain ⟨ad306, e306, hx306_0⟩ := Kd.at_string (Kd.R_reads' HO_6.out).2.2 x14_2 p306 q306
                            obtain rfl : ad297 = ad306 := (by injection e306)
                            replace p306 := eq_true p306
                            replace q306 := eq_true q306
                            go_wp2
                            repeat (go_quiet (fail); try go_wp2)
                            go_meet
                            case rel => exact ⟨_, (false), rs_, H', ⟨by have := HJ5.out; have := HK2.out; have := HK3.out; have := HJ42.out; first | omega | exact Nat.le_refl _⟩, ⟨by (with_reducible repeat (first | apply Kd.R_alloc | apply Kd.R_drewN | apply Kd.R_drew)); exact HO_3.out⟩, ⟨by (with_reducible repeat (first | apply Kd.R_alloc | apply Kd.R_drewN | apply Kd.R_drew)); exact HO_6.out⟩, ⟨by (with_reducible repeat (first | apply Kd.R_alloc | apply Kd.R_drewN | apply Kd.R_drew)); exact HO_10.out⟩, ⟨by (with_reducible repeat (first | apply Kd.R_alloc | apply Kd.R_drewN | apply Kd.R_drew)); exact HO_12.out⟩, ⟨bl_⟩⟩
                          ·rw [if_neg c71] at H
                           exact absurd H (by simp)
                         ·rw [if_neg c70] at H
                          exact absurd H (by simp)
                        ·replace c68 := Bool.eq_false_iff.mpr c68
                         subst c68
                         have H1 : (if 0 ≤ (wrap64 (x14_2 - 1)) then (if (wrap64 (x14_2 - 1)) < (t274.length : Int) then (laws_FnListSort.j5 kj42 t269 false false t274 t284 t285 t288 t289 x14_2 (Op.bytesLess ((rdOf ByteArray.empty t274 x14_2).toList) ((rdOf ByteArray.empty t274 (wrap64 (x14_2 - 1))).toList))) else (none)) else (none)) = some r := by rw [if_neg (show ¬ (false = true) by decide)] at H; exact H
                         clear H
                         have H := H1
                         clear H1
                         obtain ⟨ji75, hji75⟩ : ∃ j_ : Int, (wrap64 (x14_2 - 1)) = j_ := ⟨_, rfl⟩
                         replace H : (if 0 ≤ (ji75) then (if (ji75) < (t274.length : Int) then (laws_FnListSort.j5 kj42 t269 false false t274 t284 t285 t288 t289 x14_2 (Op.bytesLess ((rdOf ByteArray.empty t274 x14_2).toList) ((rdOf ByteArray.empty t274 (ji75)).toList))) else (none)) else (none)) = some r := by first | (rw [hji75] at H; exact H) | (simp only [hji75] at H ⊢; exact H)
                         have hji75w : (IntKind.i64.wrap (x14_2 - 1)) = ji75 := (i64_w _).trans hji75
                         by_cases c76 : 0 ≤ (ji75)
                         ·rw [if_pos c76] at H
                          have c76b0 : decide (0 ≤ (ji75)) = true := decide_eq_true c76
                          clear c76
                          by_cases c77 : (ji75) < (t274.length : Int)
                          ·as_aux_lemma =>
                           rw [if_pos c77] at H
                           have c77b0 : decide ((ji75) < (t274.length : Int)) = true := decide_eq_true c77
                           clear c77
                           have H' := Aside0.mk H
                           clear H
                           have p303 : 0 ≤ (x14_2 : Int) := od_
                           have q303 : x14_2 < (t274.length : Int) := od_
                           obtain ⟨ad303, e303, hx303_0⟩ := Kd.at_string (Kd.R_reads' HO_6.out).2.2 x14_2 p303 q303
                           obtain rfl : ad297 = ad303 := (by injection e303)
                           replace p303 := eq_true p303
                           replace q303 := eq_true q303
                           obtain ⟨Ao78, co78, eo78⟩ := Kd.R_slice HO_10.out
                           subst eo78
                           have p304 : 0 ≤ ((ji55) : Int) := od_
                           have q304 : (ji55) < (t284.length : Int) := od_
                           obtain ⟨ad304, e304, hx304_0⟩ := Kd.at_string (Kd.R_reads' HO_10.out).2.2 (ji55) p304 q304
                           cases e304
                           replace p304 := eq_true p304
                           replace q304 := eq_true q304
                           have p307 : 0 ≤ ((ji75) : Int) := od_
                           have q307 : (ji75) < (t274.length : Int) := od_
                           obtain ⟨ad307, e307, hx307_0⟩ := Kd.at_string (Kd.R_reads' HO_6.out).2.2 (ji75) p307 q307
                           obtain rfl : ad297 = ad307 := (by injection e307)
                           replace p307 := eq_true p307
                           replace q307 := eq_true q307
                           have p308 : 0 ≤ (x14_2 : Int) := od_
                           have q308 : x14_2 < (t274.length : Int) := od_
                           obtain ⟨ad308, e308, hx308_0⟩ := Kd.at_string (Kd.R_reads' HO_6.out).2.2 x14_2 p308 q308
                           obtain rfl : ad297 = ad308 := (by injection e308)
                           replace p308 := eq_true p308
                           replace q308 := eq_true q308
                           go_wp2
                           repeat (go_quiet (fail); try go_wp2)
                           go_meet
                           case rel => exact ⟨_, ((Op.bytesLess ((rdOf ByteArray.empty t274 x14_2).toList) ((rdOf ByteArray.empty t274 (ji75)).toList))), (by first | rfl | (simp; done) | (simp [*, sLess_gt]; done) | (simp only [← hji75] <;> (first | rfl | simp)) | (simp [*]; done)), H', ⟨by have := HJ5.out; have := HK2.out; have := HK3.out; have := HJ42.out; first | omega | exact Nat.le_refl _⟩, ⟨by (with_reducible repeat (first | apply Kd.R_alloc | apply Kd.R_drewN | apply Kd.R_drew)); exact HO_3.out⟩, ⟨by (with_reducible repeat (first | apply Kd.R_alloc | apply Kd.R_drewN | apply Kd.R_drew)); exact HO_6.out⟩, ⟨by (with_reducible repeat (first | apply Kd.R_alloc | apply Kd.R_drewN | apply Kd.R_drew)); exact HO_10.out⟩, ⟨by (with_reducible repeat (first | apply Kd.R_alloc | apply Kd.R_drewN | apply Kd.R_drew)); exact HO_12.out⟩, ⟨bl_⟩⟩
                          ·rw [if_neg c77] at H
                           exact absurd H (by simp)
                         ·rw [if_neg c76] at H
                          exact absurd H (by simp)
                       ·as_aux_lemma =>
                        rw [if_neg c67] at H
                        have c67b0 : decide (0 < x14_2) = false := decide_eq_false c67
                        clear c67
                        have H' := Aside0.mk H
                        clear H
                        have p303 : 0 ≤ (x14_2 : Int) := od_
                        have q303 : x14_2 < (t274.length : Int) := od_
                        obtain ⟨ad303, e303, hx303_0⟩ := Kd.at_string (Kd.R_reads' HO_6.out).2.2 x14_2 p303 q303
                        obtain rfl : ad297 = ad303 := (by injection e303)
                        replace p303 := eq_true p303
                        replace q303 := eq_true q303
                        obtain ⟨Ao79, co79, eo79⟩ := Kd.R_slice HO_10.out
                        subst eo79
                        have p304 : 0 ≤ ((ji55) : Int) := od_
                        have q304 : (ji55) < (t284.length : Int) := od_
                        obtain ⟨ad304, e304, hx304_0⟩ := Kd.at_string (Kd.R_reads' HO_10.out).2.2 (ji55) p304 q304
                        cases e304
                        replace p304 := eq_true p304
                        replace q304 := eq_true q304
                        go_wp2
                        repeat (go_quiet (fail); try go_wp2)
                        go_meet
                        case rel => exact ⟨_, (false), rs_, H', ⟨by have := HJ5.out; have := HK2.out; have := HK3.out; have := HJ42.out; first | omega | exact Nat.le_refl _⟩, ⟨by (with_reducible repeat (first | apply Kd.R_alloc | apply Kd.R_drewN | apply Kd.R_drew)); exact HO_3.out⟩, ⟨by (with_reducible repeat (first | apply Kd.R_alloc | apply Kd.R_drewN | apply Kd.R_drew)); exact HO_6.out⟩, ⟨by (with_reducible repeat (first | apply Kd.R_alloc | apply Kd.R_drewN | apply Kd.R_drew)); exact HO_10.out⟩, ⟨by (with_reducible repeat (first | apply Kd.R_alloc | apply Kd.R_drewN | apply Kd.R_drew)); exact HO_12.out⟩, ⟨bl_⟩⟩
                     ·as_aux_lemma =>
                      rw [if_neg c58] at H
                      have c58b0 : ((rdOf ByteArray.empty t274 x14_2).toList == (rdOf ByteArray.empty t284 (ji55)).toList) = false := beq_eq_false_iff_ne.mpr c58
                      have c58b1 : ((rdOf ByteArray.empty t274 x14_2).toList != (rdOf ByteArray.empty t284 (ji55)).toList) = true := bne_iff_ne.mpr c58
                      have H' := Aside0.mk H
                      clear H
                      have p303 : 0 ≤ (x14_2 : Int) := od_
                      have q303 : x14_2 < (t274.length : Int) := od_
                      obtain ⟨ad303, e303, hx303_0⟩ := Kd.at_string (Kd.R_reads' HO_6.out).2.2 x14_2 p303 q303
                      obtain rfl : ad297 = ad303 := (by injection e303)
                      replace p303 := eq_true p303
                      replace q303 := eq_true q303
                      obtain ⟨Ao80, co80, eo80⟩ := Kd.R_slice HO_10.out
                      subst eo80
                      have p304 : 0 ≤ ((ji55) : Int) := od_
                      have q304 : (ji55) < (t284.length : Int) := od_
                      obtain ⟨ad304, e304, hx304_0⟩ := Kd.at_string (Kd.R_reads' HO_10.out).2.2 (ji55) p304 q304
                      cases e304
                      replace p304 := eq_true p304
                      replace q304 := eq_true q304
                      go_wp2
                      repeat (go_quiet (fail); try go_wp2)
                      go_meet
                      case rel => exact ⟨_, (true), rs_, H', ⟨by have := HJ5.out; have := HK2.out; have := HK3.out; have := HJ42.out; first | omega | exact Nat.le_refl _⟩, ⟨by (with_reducible repeat (first | apply Kd.R_alloc | apply Kd.R_drewN | apply Kd.R_drew)); exact HO_3.out⟩, ⟨by (with_reducible repeat (first | apply Kd.R_alloc | apply Kd.R_drewN | apply Kd.R_drew)); exact HO_6.out⟩, ⟨by (with_reducible repeat (first | apply Kd.R_alloc | apply Kd.R_drewN | apply Kd.R_drew)); exact HO_10.out⟩, ⟨by (with_reducible repeat (first | apply Kd.R_alloc | apply Kd.R_drewN | apply Kd.R_drew)); exact HO_12.out⟩, ⟨bl_⟩⟩
                    ·rw [if_neg c57] at H
                     exact absurd H (by simp)
                   ·rw [if_neg c56] at H
                    exact absurd H (by simp)
                  ·rw [if_neg c54] at H
                   exact absurd H (by simp)
                 ·rw [if_neg c53] at H
                  exact absurd H (by simp)
                ·as_aux_lemma =>
                 rw [if_neg c52] at H
                 have c52b0 : (x15_3 == x16_3) = false := beq_eq_false_iff_ne.mpr c52
                 have c52b1 : (x15_3 != x16_3) = true := bne_iff_ne.mpr c52
                 (first | rw [c52b0] | (simp only [i64_w, i32_w]; rw [c52b0]) | skip)
                 have H' := Aside0.mk H
                 clear H
                 go_wp2
                 repeat (go_quiet (fail); try go_wp2)
                 go_meet
                 case rel => exact ⟨_, (true), rs_, H', ⟨by have := HJ5.out; have := HK2.out; have := HK3.out; have := HJ42.out; first | omega | exact Nat.le_refl _⟩, ⟨by (with_reducible repeat (first | apply Kd.R_alloc | apply Kd.R_drewN | apply Kd.R_drew)); exact HO_3.out⟩, ⟨by (with_reducible repeat (first | apply Kd.R_alloc | apply Kd.R_drewN | apply Kd.R_drew)); exact HO_6.out⟩, ⟨by (with_reducible repeat (first | apply Kd.R_alloc | apply Kd.R_drewN | apply Kd.R_drew)); exact HO_10.out⟩, ⟨by (with_reducible repeat (first | apply Kd.R_alloc | apply Kd.R_drewN | apply Kd.R_drew)); exact HO_12.out⟩, ⟨bl_⟩⟩
               case rest => as_aux_lemma =>
                clear HC51
                try clear c1
                try clear c2
                try clear c2b0
                try clear c2b1
                try clear p2
                try clear q2
                try clear hx2
                try clear c3
                try clear p3
                try clear q3
                try clear hx3
                try clear c4
                try clear c5
                try clear c6
                try clear p6
                try clear c7
                try clear c11
                try clear c11b0
                try clear c11b1
                try clear c11b2
                try clear c13
                try clear c18
                try clear c19
                try clear c19b0
                try clear c19b1
                try clear c19b2
                try clear c28
                try clear c28b0
                try clear c29
                try clear c29b0
                try clear p29
                try clear q29
                try clear hx29
                try clear c30
                try clear c30b0
                try clear p30
                try clear q30
                try clear hx30
                try clear c31
                try clear c31b0
                try clear c32
                try clear c32b0
                try clear c34
                try clear c34b0
                try clear c34b1
                try clear c35
                try clear c35b0
                try clear c36
                try clear c36b0
                try clear c37
                try clear c37b0
                try clear c38
                try clear c38b0
                try clear c39
                try clear c39b0
                try clear c39b1
                try clear c40
                try clear c40b0
                try clear c41
                try clear c41b0
                try clear c45
                try clear c45b0
                try clear c47
                try clear c47b0
                try clear c48
                try clear c48b0
                try clear c52
                try clear c52b0
                try clear c52b1
                try clear c53
                try clear c53b0
                try clear c54
                try clear c54b0
                try clear c56
                try clear c56b0
                try clear c57
                try clear c57b0
                try clear c58
                try clear c58b0
                try clear c58b1
                try clear c59
                try clear c60
                try clear c61
                try clear c61b0
                try clear c64
                try clear c64b0
                try clear p64
                try clear c67
                try clear c67b0
                try clear c68
                try clear c70
                try clear c70b0
                try clear c71
                try clear c71b0
                try clear c72
                try clear c72b0
                try clear c72b1
                try clear c72b2
                try clear c76
                try clear c76b0
                try clear c77
                try clear c77b0
                try clear hx293_0
                try clear hx294_0
                try clear hx295_0
                try clear hx296_0
                try clear hx297_0
                try clear hx300_0
                try clear hx303_0
                try clear hx304_0
                try clear hx305_0
                try clear hx306_0
                try clear hx307_0
                try clear hx308_0
                try clear p2
                try clear p29
                try clear p293
                try clear p294
                try clear p295
                try clear p296
                try clear p297
                try clear p3
                try clear p30
                try clear p300
                try clear p303
                try clear p304
                try clear p305
                try clear p306
                try clear p307
                try clear p308
                try clear p6
                try clear q2
                try clear q29
                try clear q293
                try clear q294
                try clear q295
                try clear q296
                try clear q297
                try clear q3
                try clear q30
                try clear q300
                try clear q303
                try clear q304
                try clear q305
                try clear q306
                try clear q307
                try clear q308
                obtain ⟨kq, x210_50, rfl, HA, HJ50, HO_3, HO_6, HO_10, HO_12, HB⟩ := hcut
                cases kq with
                | zero => exact absurd HA.out (by simp [laws_FnListSort.j5])
                | succ kj50 =>
                 have H := HA.out
                 clear HA
                 simp only [laws_FnListSort.j5] at H
                 by_cases c81 : x210_50 = true
                 ·subst c81
                  have H1 : (some false) = some r := by rw [if_pos rfl] at H; exact H
                  clear H
                  have H := H1
                  clear H1
                  obtain rfl := Option.some.inj H
                  go_wp2
                  repeat (go_quiet (fail); try go_wp2)
                  go_ret
                  exact ⟨re_, bl_⟩
                 ·replace c81 := Bool.eq_false_iff.mpr c81
                  subst c81
                  have H1 : (laws_FnListSort.l0 kj50 t269 t270 t271 t274 t284 t285 t288 t289 (wrap64 (x14_2 + 1))) = some r := by rw [if_neg (show ¬ (false = true) by decide)] at H; exact H
                  clear H
                  have H := H1
                  clear H1
                  have H' := Aside0.mk H
                  clear H
                  go_wp2
                  repeat (go_quiet (fail); try go_wp2)
                  go_roundg kj50
                  case measure => have := HJ5.out; have := HK2.out; have := HK3.out; have := HJ42.out; have := HJ50.out; omega
                  case rel => exact ⟨(wrap64 (x14_2 + 1)), rs_, H', ⟨by have := HJ5.out; have := HK2.out; have := HK3.out; have := HJ42.out; have := HJ50.out; omega⟩, ⟨by (with_reducible repeat (first | apply Kd.R_alloc | apply Kd.R_drewN | apply Kd.R_drew)); exact HO_3.out⟩, ⟨by (with_reducible repeat (first | apply Kd.R_alloc | apply Kd.R_drewN | apply Kd.R_drew)); exact HO_6.out⟩, ⟨by (with_reducible repeat (first | apply Kd.R_alloc | apply Kd.R_drewN | apply Kd.R_drew)); exact HO_10.out⟩, ⟨by (with_reducible repeat (first | apply Kd.R_alloc | apply Kd.R_drewN | apply Kd.R_drew)); exact HO_12.out⟩, ⟨bl_⟩⟩
            ·rw [if_neg c41] at H
             exact absurd H (by simp)
           ·rw [if_neg c40] at H
            exact absurd H (by simp)
       ·rw [if_neg c28] at H
        have c28b0 : decide (x14_2 < (t274.length : Int)) = false := decide_eq_false c28
        clear c28
        by_cases c82 : t285 = true
        ·subst c82
         have H1 : (if t289 = true then ((laws_qxTexts.f k2 t288 t274).bind fun t292 => (if t292 = true then (some ((t274.length : Int) == (t269.length : Int))) else (some false))) else (some false)) = some r := by rw [if_pos rfl] at H; exact H
         clear H
         have H := H1
         clear H1
         by_cases c83 : t289 = true
         ·subst c83
          have H1 : ((laws_qxTexts.f k2 t288 t274).bind fun t292 => (if t292 = true then (some ((t274.length : Int) == (t269.length : Int))) else (some false))) = some r := by rw [if_pos rfl] at H; exact H
          clear H
          have H := H1
          clear H1
          replace H := Option.bind_eq_some_iff.mp H
          obtain ⟨t292, A840, H⟩ := H
          replace H : (if t292 = true then (some ((t274.length : Int) == (t269.length : Int))) else (some false)) = some r := H
          have A84 := Aside0.mk A840
          clear A840
          by_cases c85 : t292 = true
          ·subst c85
           have H1 : (some ((t274.length : Int) == (t269.length : Int))) = some r := by rw [if_pos rfl] at H; exact H
           clear H
           have H := H1
           clear H1
           obtain rfl := Option.some.inj H
           obtain ⟨Ao86, co86, eo86⟩ := Kd.R_slice HO_12.out
           subst eo86
           go_wp2_with (first | (go_at_call 22; (with_reducible refine (laws_qxTexts.calls k2 _ _ t288 _ _ t274 true _ ?side1 ?side2 ?side3 ?side4 A84.out).mono ?_); (case side1 => repeat (first | exact (Kd.R_reads' HO_12.out).2.2 | (with_reducible refine Kd.C_alloc ?_ _) | (with_reducible refine Kd.C_drewN ?_ _) | (with_reducible refine Kd.C_drew ?_))); (case side2 => exact (Kd.R_reads' HO_12.out).2.1); (case side3 => repeat (first | exact (Kd.R_reads' HO_6.out).2.2 | (with_reducible refine Kd.C_alloc ?_ _) | (with_reducible refine Kd.C_drewN ?_ _) | (with_reducible refine Kd.C_drew ?_))); (case side4 => exact (Kd.R_reads' HO_6.out).2.1); rintro e w' ⟨rfl, ⟨nd, rfl⟩⟩; (try first | exact ⟨rfl, _, World.drewN_drewN _ _ _⟩ | exact ⟨rfl, _, Eq.trans (World.drewN_drewN _ _ _) (congrArg (World.drewN _) (Nat.add_assoc _ _ _))⟩)))
           repeat (go_quiet (first | (go_at_call 22; (with_reducible refine (laws_qxTexts.calls k2 _ _ t288 _ _ t274 true _ ?side1 ?side2 ?side3 ?side4 A84.out).mono ?_); (case side1 => repeat (first | exact (Kd.R_reads' HO_12.out).2.2 | (with_reducible refine Kd.C_alloc ?_ _) | (with_reducible refine Kd.C_drewN ?_ _) | (with_reducible refine Kd.C_drew ?_))); (case side2 => exact (Kd.R_reads' HO_12.out).2.1); (case side3 => repeat (first | exact (Kd.R_reads' HO_6.out).2.2 | (with_reducible refine Kd.C_alloc ?_ _) | (with_reducible refine Kd.C_drewN ?_ _) | (with_reducible refine Kd.C_drew ?_))); (case side4 => exact (Kd.R_reads' HO_6.out).2.1); rintro e w' ⟨rfl, ⟨nd, rfl⟩⟩; (try first | exact ⟨rfl, _, World.drewN_drewN _ _ _⟩ | exact ⟨rfl, _, Eq.trans (World.drewN_drewN _ _ _) (congrArg (World.drewN _) (Nat.add_assoc _ _ _))⟩))); try go_wp2_with (first | (go_at_call 22; (with_reducible refine (laws_qxTexts.calls k2 _ _ t288 _ _ t274 true _ ?side1 ?side2 ?side3 ?side4 A84.out).mono ?_); (case side1 => repeat (first | exact (Kd.R_reads' HO_12.out).2.2 | (with_reducible refine Kd.C_alloc ?_ _) | (with_reducible refine Kd.C_drewN ?_ _) | (with_reducible refine Kd.C_drew ?_))); (case side2 => exact (Kd.R_reads' HO_12.out).2.1); (case side3 => repeat (first | exact (Kd.R_reads' HO_6.out).2.2 | (with_reducible refine Kd.C_alloc ?_ _) | (with_reducible refine Kd.C_drewN ?_ _) | (with_reducible refine Kd.C_drew ?_))); (case side4 => exact (Kd.R_reads' HO_6.out).2.1); rintro e w' ⟨rfl, ⟨nd, rfl⟩⟩; (try first | exact ⟨rfl, _, World.drewN_drewN _ _ _⟩ | exact ⟨rfl, _, Eq.trans (World.drewN_drewN _ _ _) (congrArg (World.drewN _) (Nat.add_assoc _ _ _))⟩))))
           go_ret
           exact ⟨re_, bl_⟩
          ·replace c85 := Bool.eq_false_iff.mpr c85
           subst c85
           have H1 : (some false) = some r := by rw [if_neg (show ¬ (false = true) by decide)] at H; exact H
           clear H
           have H := H1
           clear H1
           obtain rfl := Option.some.inj H
           obtain ⟨Ao87, co87, eo87⟩ := Kd.R_slice HO_12.out
           subst eo87
           go_wp2_with (first | (go_at_call 22; (with_reducible refine (laws_qxTexts.calls k2 _ _ t288 _ _ t274 false _ ?side1 ?side2 ?side3 ?side4 A84.out).mono ?_); (case side1 => repeat (first | exact (Kd.R_reads' HO_12.out).2.2 | (with_reducible refine Kd.C_alloc ?_ _) | (with_reducible refine Kd.C_drewN ?_ _) | (with_reducible refine Kd.C_drew ?_))); (case side2 => exact (Kd.R_reads' HO_12.out).2.1); (case side3 => repeat (first | exact (Kd.R_reads' HO_6.out).2.2 | (with_reducible refine Kd.C_alloc ?_ _) | (with_reducible refine Kd.C_drewN ?_ _) | (with_reducible refine Kd.C_drew ?_))); (case side4 => exact (Kd.R_reads' HO_6.out).2.1); rintro e w' ⟨rfl, ⟨nd, rfl⟩⟩; (try first | exact ⟨rfl, _, World.drewN_drewN _ _ _⟩ | exact ⟨rfl, _, Eq.trans (World.drewN_drewN _ _ _) (congrArg (World.drewN _) (Nat.add_assoc _ _ _))⟩)))
           repeat (go_quiet (first | (go_at_call 22; (with_reducible refine (laws_qxTexts.calls k2 _ _ t288 _ _ t274 false _ ?side1 ?side2 ?side3 ?side4 A84.out).mono ?_); (case side1 => repeat (first | exact (Kd.R_reads' HO_12.out).2.2 | (with_reducible refine Kd.C_alloc ?_ _) | (with_reducible refine Kd.C_drewN ?_ _) | (with_reducible refine Kd.C_drew ?_))); (case side2 => exact (Kd.R_reads' HO_12.out).2.1); (case side3 => repeat (first | exact (Kd.R_reads' HO_6.out).2.2 | (with_reducible refine Kd.C_alloc ?_ _) | (with_reducible refine Kd.C_drewN ?_ _) | (with_reducible refine Kd.C_drew ?_))); (case side4 => exact (Kd.R_reads' HO_6.out).2.1); rintro e w' ⟨rfl, ⟨nd, rfl⟩⟩; (try first | exact ⟨rfl, _, World.drewN_drewN _ _ _⟩ | exact ⟨rfl, _, Eq.trans (World.drewN_drewN _ _ _) (congrArg (World.drewN _) (Nat.add_assoc _ _ _))⟩))); try go_wp2_with (first | (go_at_call 22; (with_reducible refine (laws_qxTexts.calls k2 _ _ t288 _ _ t274 false _ ?side1 ?side2 ?side3 ?side4 A84.out).mono ?_); (case side1 => repeat (first | exact (Kd.R_reads' HO_12.out).2.2 | (with_reducible refine Kd.C_alloc ?_ _) | (with_reducible refine Kd.C_drewN ?_ _) | (with_reducible refine Kd.C_drew ?_))); (case side2 => exact (Kd.R_reads' HO_12.out).2.1); (case side3 => repeat (first | exact (Kd.R_reads' HO_6.out).2.2 | (with_reducible refine Kd.C_alloc ?_ _) | (with_reducible refine Kd.C_drewN ?_ _) | (with_reducible refine Kd.C_drew ?_))); (case side4 => exact (Kd.R_reads' HO_6.out).2.1); rintro e w' ⟨rfl, ⟨nd, rfl⟩⟩; (try first | exact ⟨rfl, _, World.drewN_drewN _ _ _⟩ | exact ⟨rfl, _, Eq.trans (World.drewN_drewN _ _ _) (congrArg (World.drewN _) (Nat.add_assoc _ _ _))⟩))))
           go_ret
           exact ⟨re_, bl_⟩
         ·replace c83 := Bool.eq_false_iff.mpr c83
          subst c83
          have H1 : (some false) = some r := by rw [if_neg (show ¬ (false = true) by decide)] at H; exact H
          clear H
          have H := H1
          clear H1
          obtain rfl := Option.some.inj H
          go_wp2
          repeat (go_quiet (fail); try go_wp2)
          go_ret
          exact ⟨re_, bl_⟩
        ·replace c82 := Bool.eq_false_iff.mpr c82
         subst c82
         have H1 : (some false) = some r := by rw [if_neg (show ¬ (false = true) by decide)] at H; exact H
         clear H
         have H := H1
         clear H1
         obtain rfl := Option.some.inj H
         go_wp2
         repeat (go_quiet (fail); try go_wp2)
         go_ret
         exact ⟨re_, bl_⟩

/-- THE ONE PURE STATEMENT of laws_FnListSort: yours. -/
def laws_FnListSort.Pure : Prop := ∀ (l0 : List Int), l0.length ≤ maxLen → l0.length * 1 ≤ 140737488351232 → (∀ x ∈ l0, (Lit.int .u8 x).wf = true) → ∃ k, laws_FnListSort.f k l0 = some true
theorem laws_FnListSort.walk (P : laws_FnListSort.Pure) (a0 : Option Addr) (len0 cap0 : Nat) (z0 : List Int) (w : World) (w0 : (a0 = none ∧ len0 = 0 ∧ cap0 = 0 ∧ z0 = []) ∨ ∃ x, a0 = some x ∧ len0 ≤ cap0 ∧ cap0 ≤ maxLen ∧ z0.length = cap0 ∧ (∀ i, i < z0.length → w.cell? (x.add i) = some (.int .u8 (z0.getD i 0))) ∧ ∀ n ∈ z0, (Lit.int .u8 n).wf = true) (y0 : len0 * 1 ≤ 140737488351232) (hG : Glob w) :
  Calls Tryd.prog 5 #[.slice a0 len0 cap0] w fun e w' => e = .returned (.bool true) ∧ Below w.heap.size w w' := by
 obtain ⟨l0, rfl, hr0, hm0, hw0, hc0⟩ := ReadsInt.ofRowC w0
 obtain ⟨k, h⟩ := P l0 hm0 y0 hw0
 refine (laws_FnListSort.calls k _ _ l0 true w (Kd.C_of_reads (d := (0 : Int)) (h1 := fun _ => rfl) hr0) hc0 hG h).mono ?_
 rintro e w' ⟨rfl, hd⟩
 exact ⟨rfl, hd⟩

end Go.Proofs.YtkgomifdmpkaeaaDoor.Lsb
