/- What the sort of a list computes, walked by hand: strconv's reading of numbers, the closure that compares, slices' insertion sort, the list. -/
import Derived.Test.YtkgomifdmpkaeaaDoorCmp1
import Derived.Test.YtkgomifdmpkaeaaDoorLess
import Derived.Test.YtkgomifdmpkaeaaDoorShelf2
namespace Go.Proofs.YtkgomifdmpkaeaaDoor
open Go.Proofs.YtkgomifdmpkaeaaDoor
open Go.RowKit Go.Proofs.YtkgomifdmpkaeaaDoorW.PrintWords Go.Proofs.YtkgomifdmpkaeaaDoorW.PrintLast Go.Proofs.YtkgomifdmpkaeaaDoorW.PrintMore
attribute [local go_sem] max2_int min2_int max_two min_two max_three min_three max_four min_four   -- for this text's walks alone
set_option linter.unusedVariables false
set_option linter.unusedSimpArgs false
open Go.Proofs.YtkgomifdmpkaeaaDoor.Cmp
/-! ### Worlds that have only grown -/
def Gr (w w' : World) : Prop := ∃ q os, w' = Sort.grow (w.drewN q) os
theorem Gr.refl (w : World) : Gr w w := ⟨0, #[], (Sort.grow_empty w).symm⟩
theorem Gr.drewN (w : World) (n : Nat) : Gr w (w.drewN n) := ⟨n, #[], (Sort.grow_empty _).symm⟩
theorem Gr.trans {a b c : World} (h : Gr a b) (k : Gr b c) : Gr a c := by
  obtain ⟨q, os, rfl⟩ := h
  obtain ⟨q', os', rfl⟩ := k
  refine ⟨q + q', os ++ os', ?_⟩
  show Sort.grow (Sort.grow ((a.drewN q).drewN q') os) os' = _
  rw [Sort.grow_grow, World.drewN_drewN]
theorem Gr.below {w w' : World} (h : Gr w w') : Below w.heap.size w w' := by
  obtain ⟨q, os, rfl⟩ := h
  have h1 := below_drewN (Below.refl w.heap.size w) q
  exact h1.trans (below_grow' (w.drewN q) os)
theorem Gr.of {w w' : World} (h : Below w.heap.size w w') (hd : w.drawn ≤ w'.drawn) : Gr w w' := by
  obtain ⟨h1, h2, h3, h4, h5⟩ := h
  refine ⟨w'.drawn - w.drawn, w'.heap.extract w.heap.size w'.heap.size, ?_⟩
  have e : w'.heap = w.heap ++ w'.heap.extract w.heap.size w'.heap.size := by
    apply Array.ext_getElem?
    intro i
    by_cases hi : i < w.heap.size
    · rw [Array.getElem?_append_left hi]
      exact h5 i hi
    · rw [Array.getElem?_append_right (by omega), Array.getElem?_extract]
      by_cases hj : i < w'.heap.size
      · rw [if_pos (by omega), show w.heap.size + (i - w.heap.size) = i by omega]
      · rw [if_neg (by omega), Array.getElem?_eq_none (by omega)]
  show w' = { w.drewN (w'.drawn - w.drawn) with heap := w.heap ++ w'.heap.extract w.heap.size w'.heap.size }
  rw [← e]
  cases w; cases w'
  simp only [World.drewN] at *
  subst h1; subst h2; subst h3
  congr 1
  omega
theorem gr_bytes (w : World) (e : TypeId) (s : ByteArray) : Gr w (Lib.bytesWorld w e s) :=
  Gr.of (Lib.bytesWorld_below w e s) (Nat.le_succ _)
def inB (n : Int) : Bool := decide (-1000000000 ≤ n) && decide (n ≤ 1000000000)
def impl_IntGet.f (a0 : ByteArray) : Option (Int × Bool) :=
  if a0.size ≤ 281474976710656 then
    (if atoiB a0 = true then (if inB (atoiV a0) = true then (if Lib.itoa (atoiV a0) = a0.toList then some (atoiV a0, true) else some (0, false)) else some (0, false)) else some (0, false))
  else none
set_option maxHeartbeats 1000000 in
set_option maxRecDepth 100000 in
theorem within_calls (n : Int) (w : World) : Calls Tryd.prog 49 #[.int .i64 n, .int .i64 (-1000000000), .int .i64 1000000000] w fun e w' => e = .returned (.bool (inB n)) ∧ Below w.heap.size w w' := by
  by_cases h0 : n ≥ -1000000000
  · have b0 : decide (n ≥ -1000000000) = true := decide_eq_true h0
    by_cases h1 : n ≤ 1000000000
    · have b1 : decide (n ≤ 1000000000) = true := decide_eq_true h1
      have e : inB n = true := by simp [inB]; omega
      rw [e]
      clear h0 h1 e
      go_enter Tryd.func49, Tryd.ntmps49
      go_wp2
      go_ret
      exact ⟨rfl, by repeat (first | (with_reducible first | exact Below.refl _ _ | apply below_alloc | apply pw_below_drewN | apply below_drew1) | exact Below.refl _ _)⟩
    · have b1 : decide (n ≤ 1000000000) = false := decide_eq_false h1
      have e : inB n = false := by simp [inB]; omega
      rw [e]
      clear h0 h1 e
      go_enter Tryd.func49, Tryd.ntmps49
      go_wp2
      go_ret
      exact ⟨rfl, by repeat (first | (with_reducible first | exact Below.refl _ _ | apply below_alloc | apply pw_below_drewN | apply below_drew1) | exact Below.refl _ _)⟩
  · have b0 : decide (n ≥ -1000000000) = false := decide_eq_false h0
    have e : inB n = false := by simp [inB]; omega
    rw [e]
    clear h0 e
    go_enter Tryd.func49, Tryd.ntmps49
    go_wp2
    go_ret
    exact ⟨rfl, by repeat (first | (with_reducible first | exact Below.refl _ _ | apply below_alloc | apply pw_below_drewN | apply below_drew1) | exact Below.refl _ _)⟩
set_option maxHeartbeats 1000000 in
set_option maxRecDepth 100000 in
theorem impl_IntGet.calls (a0 : ByteArray) (r1 : Int) (r2 : Bool) (w : World) (hG : Glob w) (h : impl_IntGet.f a0 = some (r1, r2)) :
    Calls Tryd.prog 23 #[.string a0] w fun e w' => e = .returned (.tuple #[.int .i64 r1, .bool r2]) ∧ Below w.heap.size w w' := by
  have HG := Aside0.mk hG
  clear hG
  unfold impl_IntGet.f at h
  by_cases hs : a0.size ≤ 281474976710656
  case neg => rw [if_neg hs] at h; cases h
  rw [if_pos hs] at h
  have HS := Aside0.mk hs
  have HH := Aside0.mk h
  clear hs h
  go_enter Tryd.func23, Tryd.ntmps23
  go_wp2_with fail
  refine (atoi_calls a0 HS.out _ (HG.out.below (by first | exact Below.refl _ _ | exact (Below.refl _ _).alloc (Nat.le_refl _) _))).mono ?_
  rintro e w1 ⟨hE, hb1⟩
  have HB1 := Aside0.mk hb1
  clear hb1
  have hHH := HH.out
  rcases hE with ⟨hok, rfl⟩ | ⟨hok, t, p, rfl⟩
  · rw [if_pos hok] at hHH
    have HG1 := Aside0.mk (HG.out.below HB1.out)
    clear hok HH
    have HH := Aside0.mk hHH
    clear hHH
    go_wp2_with fail
    refine (within_calls _ _).mono ?_
    rintro e w2 ⟨rfl, hb2⟩
    have HB2 := Aside0.mk (HB1.out.trans (hb2.mono HB1.out.size))
    have HG2 := Aside0.mk (HG1.out.below hb2)
    clear hb2
    have hHH := HH.out
    by_cases hin : inB (atoiV a0) = true
    · rw [if_pos hin] at hHH
      have hr : -9223372036854775808 ≤ atoiV a0 ∧ atoiV a0 ≤ 9223372036854775807 := by
        simp [inB] at hin
        omega
      have HR := Aside0.mk hr
      clear hr HH
      by_cases hi : Lib.itoa (atoiV a0) = a0.toList
      · rw [if_pos hi] at hHH
        obtain ⟨rfl, rfl⟩ : atoiV a0 = r1 ∧ true = r2 := by simpa using hHH
        have hb0 : (Lib.itoa (atoiV a0) == a0.toList) = true := beq_iff_eq.2 hi
        have hb1 : (Lib.itoa (atoiV a0) != a0.toList) = false := by simp [hi]
        clear hHH hi
        go_wp2_with fail
        refine (itoa_calls _ HR.out.1 HR.out.2 _ HG2.out).mono ?_
        rintro e w3 ⟨rfl, hb3⟩
        have HB3 := Aside0.mk (HB2.out.trans (hb3.mono HB2.out.size))
        clear hb3
        go_wp2_with fail
        go_ret2
        exact ⟨rfl, HB3.out⟩
      · rw [if_neg hi] at hHH
        obtain ⟨rfl, rfl⟩ : 0 = r1 ∧ false = r2 := by simpa using hHH
        have hb0 : (Lib.itoa (atoiV a0) == a0.toList) = false := beq_eq_false_iff_ne.2 hi
        have hb1 : (Lib.itoa (atoiV a0) != a0.toList) = true := by simp [hi]
        have hb2 : (!Lib.itoa (atoiV a0) == a0.toList) = true := by simp [hi]
        clear hHH hi
        go_wp2_with fail
        refine (itoa_calls _ HR.out.1 HR.out.2 _ HG2.out).mono ?_
        rintro e w3 ⟨rfl, hb3⟩
        have HB3 := Aside0.mk (HB2.out.trans (hb3.mono HB2.out.size))
        clear hb3
        go_wp2_with fail
        go_ret2
        exact ⟨rfl, HB3.out⟩
    · rw [if_neg hin] at hHH
      obtain ⟨rfl, rfl⟩ : 0 = r1 ∧ false = r2 := by simpa using hHH
      have hin : inB (atoiV a0) = false := by simpa using hin
      clear HH hHH
      go_wp2_with fail
      go_ret2
      exact ⟨rfl, HB2.out⟩
  · rw [if_neg (by simp [hok])] at hHH
    obtain ⟨rfl, rfl⟩ : 0 = r1 ∧ false = r2 := by simpa using hHH
    clear hok HH
    go_wp2_with fail
    go_ret2
    exact ⟨rfl, HB1.out⟩
set_option maxHeartbeats 1000000 in
set_option maxRecDepth 100000 in
theorem within_quiet (n : Int) (h : inB n = true) (w : World) : Calls Tryd.prog 49 #[.int .i64 n, .int .i64 (-1000000000), .int .i64 1000000000] w fun e w' => e = .returned (.bool true) ∧ w' = w := by
  simp only [inB, Bool.and_eq_true, decide_eq_true_eq] at h
  have b0 : decide (n ≥ -1000000000) = true := decide_eq_true h.1
  have b1 : decide (n ≤ 1000000000) = true := decide_eq_true h.2
  clear h
  go_enter Tryd.func49, Tryd.ntmps49
  go_wp2
  go_ret
  exact ⟨rfl, rfl⟩
/-- A text that is a number, as IntGet has it. -/
def NumT (x : ByteArray) : Prop := impl_IntGet.f x = some (atoiV x, true)
theorem numT_parts {x : ByteArray} (h : NumT x) : x.size ≤ 281474976710656 ∧ atoiB x = true ∧ inB (atoiV x) = true ∧ Lib.itoa (atoiV x) = x.toList := by
  unfold NumT impl_IntGet.f at h
  split at h
  · split at h
    · split at h
      · split at h
        · exact ⟨‹_›, ‹_›, ‹_›, ‹_›⟩
        · simp at h
      · simp at h
    · simp at h
  · simp at h
theorem numT_of {x : ByteArray} {v : Int} (h : impl_IntGet.f x = some (v, true)) : v = atoiV x ∧ NumT x := by
  have h0 := h
  unfold impl_IntGet.f at h
  split at h
  · split at h
    · split at h
      · split at h
        · obtain ⟨rfl, _⟩ : atoiV x = v ∧ true = true := by simpa using h
          exact ⟨rfl, h0⟩
        · simp at h
      · simp at h
    · simp at h
  · simp at h
theorem atoi_gr (s : ByteArray) (hs : s.size ≤ 281474976710656) (h : atoiB s = true) (w : World) :
    Calls Tryd.prog 29 #[.string s] w fun e w' => e = .returned (.tuple #[.int .i64 (atoiV s), .nilIface]) ∧ Gr w w' := by
  rcases hv : Lib.atoiAll s.data.toList with v | _ | _
  · refine (Tryd.strconv_Atoi_ok s (by omega) v hv w).mono ?_
    rintro e w' ⟨rfl, hw⟩
    refine ⟨by simp [atoiV, hv], ?_⟩
    rcases hw with rfl | ⟨t, rfl⟩
    · exact Gr.refl _
    · exact gr_bytes w 5 t
  · simp [atoiB, hv] at h
  · simp [atoiB, hv] at h
set_option maxHeartbeats 1000000 in
set_option maxRecDepth 100000 in
theorem intGet_gr (a0 : ByteArray) (hn : NumT a0) (w : World) (hG : Glob w) :
    Calls Tryd.prog 23 #[.string a0] w fun e w' => e = .returned (.tuple #[.int .i64 (atoiV a0), .bool true]) ∧ Gr w w' := by
  have HG := Aside0.mk hG
  have HN := Aside0.mk (numT_parts hn)
  clear hG hn
  have hb0 : (Lib.itoa (atoiV a0) == a0.toList) = true := beq_iff_eq.2 HN.out.2.2.2
  have hb1 : (Lib.itoa (atoiV a0) != a0.toList) = false := by simp [HN.out.2.2.2]
  go_enter Tryd.func23, Tryd.ntmps23
  go_wp2_with fail
  refine (atoi_gr a0 HN.out.1 HN.out.2.1 _).mono ?_
  rintro e w1 ⟨rfl, hg1⟩
  have HG1 := Aside0.mk hg1
  clear hg1
  go_wp2_with fail
  refine (within_quiet _ HN.out.2.2.1 _).mono ?_
  rintro e w2 ⟨rfl, rfl⟩
  go_wp2_with fail
  have hr : -9223372036854775808 ≤ atoiV a0 ∧ atoiV a0 ≤ 9223372036854775807 := by
    have := HN.out.2.2.1
    simp [inB] at this
    omega
  refine (Tryd.strconv_Itoa _ hr.1 hr.2 _ (HG.out.below HG1.out.below).tab).mono ?_
  rintro e w' ⟨rfl, k, os, rfl⟩
  clear hr
  go_wp2_with fail
  go_ret2
  exact ⟨rfl, HG1.out.trans ⟨k, os, rfl⟩⟩
/-! ### The closure that compares -/
theorem Gr.cell {w w' : World} (h : Gr w w') {a : Addr} {v : Value} (hc : w.cell? a = some v) : w'.cell? a = some v :=
  (h.below.cell (World.block_lt_of_cell? w _ hc)).trans hc
def cmpS (x y : ByteArray) : Int := if Op.bytesLess x.toList y.toList = true then -1 else if Op.bytesLess y.toList x.toList = true then 1 else 0
def cmpI (m n : Int) : Int := if m < n then -1 else if m > n then 1 else 0
theorem cmpS_f (x y : ByteArray) : cmp_Compare_string.f x y = some (cmpS x y) := by
  simp only [cmp_Compare_string.f, cmp_isNaN_string.f, cmpS, Option.bind_some, bne_self_eq_false, Bool.false_eq_true, if_false]
  split
  · rfl
  · split <;> rfl
theorem cmpI_f (m n : Int) : cmp_Compare_int.f m n = some (cmpI m n) := by
  simp only [cmp_Compare_int.f, cmp_isNaN_int.f, cmpI, Option.bind_some, bne_self_eq_false, Bool.false_eq_true, if_false]
  split
  · rfl
  · split <;> rfl
theorem cmpS_wrap (x y : ByteArray) : IntKind.i64.wrap (-(cmpS x y)) = -(cmpS x y) := by
  unfold cmpS
  split
  · rfl
  · split <;> rfl
theorem cmpI_wrap (m n : Int) : IntKind.i64.wrap (-(cmpI m n)) = -(cmpI m n) := by
  unfold cmpI
  split
  · rfl
  · split <;> rfl
def ordOf (nu : Bool) (x y : ByteArray) : Int := if nu = true then cmpI (atoiV x) (atoiV y) else cmpS x y
def cfOf (nu dn : Bool) (x y : ByteArray) : Int := if dn = true then -(ordOf nu x y) else ordOf nu x y
set_option maxHeartbeats 1000000 in
set_option maxRecDepth 100000 in
theorem closure_s (dn : Bool) (p4 p5 : Nat) (x y : ByteArray) (w : World) (h4 : w.cell? ⟨p4, 0, none⟩ = some (.bool false)) (h5 : w.cell? ⟨p5, 0, none⟩ = some (.bool dn)) :
    Calls Tryd.prog 43 #[.string x, .string y, .pointer (some ⟨p4, 0, none⟩), .pointer (some ⟨p5, 0, none⟩)] w fun e w' => e = .returned (.int .i64 (cfOf false dn x y)) ∧ Gr w w' := by
  have hw := cmpS_wrap x y
  cases dn with
  | false =>
    go_enter Tryd.func43, Tryd.ntmps43
    go_wp2_with fail
    refine (cmp_Compare_string.calls x y _ _ (cmpS_f x y)).mono ?_
    rintro e w1 ⟨rfl, ⟨nd, rfl⟩⟩
    have g1 := Aside0.mk (Gr.drewN w nd)
    have c4 := g1.out.cell h4
    have c5 := g1.out.cell h5
    clear h4 h5
    generalize w.drewN nd = w1 at g1 c4 c5 ⊢
    go_wp2_with fail
    go_ret
    exact ⟨rfl, g1.out⟩
  | true =>
    go_enter Tryd.func43, Tryd.ntmps43
    go_wp2_with fail
    refine (cmp_Compare_string.calls x y _ _ (cmpS_f x y)).mono ?_
    rintro e w1 ⟨rfl, ⟨nd, rfl⟩⟩
    have g1 := Aside0.mk (Gr.drewN w nd)
    have c4 := g1.out.cell h4
    have c5 := g1.out.cell h5
    clear h4 h5
    generalize w.drewN nd = w1 at g1 c4 c5 ⊢
    go_wp2_with fail
    go_ret
    exact ⟨rfl, g1.out⟩
set_option maxHeartbeats 1000000 in
set_option maxRecDepth 100000 in
theorem closure_n (dn : Bool) (p4 p5 : Nat) (x y : ByteArray) (w : World) (h4 : w.cell? ⟨p4, 0, none⟩ = some (.bool true)) (h5 : w.cell? ⟨p5, 0, none⟩ = some (.bool dn)) (hx : NumT x) (hy : NumT y) (hG : Glob w) :
    Calls Tryd.prog 43 #[.string x, .string y, .pointer (some ⟨p4, 0, none⟩), .pointer (some ⟨p5, 0, none⟩)] w fun e w' => e = .returned (.int .i64 (cfOf true dn x y)) ∧ Gr w w' := by
  have hw := cmpI_wrap (atoiV x) (atoiV y)
  have HG := Aside0.mk hG
  have HX := Aside0.mk hx
  have HY := Aside0.mk hy
  clear hG hx hy
  cases dn with
  | false =>
    go_enter Tryd.func43, Tryd.ntmps43
    go_wp2_with fail
    refine (cmp_Compare_string.calls x y _ _ (cmpS_f x y)).mono ?_
    rintro e w1 ⟨rfl, ⟨nd, rfl⟩⟩
    have g1 := Aside0.mk (Gr.drewN w nd)
    have c4 := g1.out.cell h4
    generalize w.drewN nd = w1 at g1 c4 ⊢
    go_wp2_with fail
    refine (intGet_gr x HX.out _ (HG.out.below g1.out.below)).mono ?_
    rintro e w2 ⟨rfl, hg⟩
    have g2 := Aside0.mk (g1.out.trans hg)
    clear hg c4
    go_wp2_with fail
    refine (intGet_gr y HY.out _ (HG.out.below g2.out.below)).mono ?_
    rintro e w3 ⟨rfl, hg⟩
    have g3 := Aside0.mk (g2.out.trans hg)
    clear hg
    go_wp2_with fail
    refine (cmp_Compare_int.calls (atoiV x) (atoiV y) _ _ (cmpI_f _ _)).mono ?_
    rintro e w4 ⟨rfl, ⟨nd, rfl⟩⟩
    have g4 := Aside0.mk (g3.out.trans (Gr.drewN w3 nd))
    have c5 := g4.out.cell h5
    clear h4 h5
    generalize w3.drewN nd = w4 at g4 c5 ⊢
    go_wp2_with fail
    go_ret
    exact ⟨rfl, g4.out⟩
  | true =>
    go_enter Tryd.func43, Tryd.ntmps43
    go_wp2_with fail
    refine (cmp_Compare_string.calls x y _ _ (cmpS_f x y)).mono ?_
    rintro e w1 ⟨rfl, ⟨nd, rfl⟩⟩
    have g1 := Aside0.mk (Gr.drewN w nd)
    have c4 := g1.out.cell h4
    generalize w.drewN nd = w1 at g1 c4 ⊢
    go_wp2_with fail
    refine (intGet_gr x HX.out _ (HG.out.below g1.out.below)).mono ?_
    rintro e w2 ⟨rfl, hg⟩
    have g2 := Aside0.mk (g1.out.trans hg)
    clear hg c4
    go_wp2_with fail
    refine (intGet_gr y HY.out _ (HG.out.below g2.out.below)).mono ?_
    rintro e w3 ⟨rfl, hg⟩
    have g3 := Aside0.mk (g2.out.trans hg)
    clear hg
    go_wp2_with fail
    refine (cmp_Compare_int.calls (atoiV x) (atoiV y) _ _ (cmpI_f _ _)).mono ?_
    rintro e w4 ⟨rfl, ⟨nd, rfl⟩⟩
    have g4 := Aside0.mk (g3.out.trans (Gr.drewN w3 nd))
    have c5 := g4.out.cell h5
    clear h4 h5
    generalize w3.drewN nd = w4 at g4 c5 ⊢
    go_wp2_with fail
    go_ret
    exact ⟨rfl, g4.out⟩
/-! ### The insertion sort -/
theorem sLess_gt (x y : List UInt8) : (!Op.bytesLess y x && !(y == x)) = Op.bytesLess x y := by
  cases h : Op.bytesLess x y with
  | true => rw [sLess_asym h, sLess_ne h]; rfl
  | false => exact sLess_tot (by simp [h])
theorem numT_zero : NumT ⟨#[48]⟩ := by unfold NumT; kernel_rfl
/-- A text that the closure takes. -/
def Elt (nu : Bool) := {b : ByteArray // nu = true → NumT b}
instance instEltInh (nu : Bool) : Inhabited (Elt nu) := ⟨⟨⟨#[48]⟩, fun _ => numT_zero⟩⟩
def encE {nu : Bool} (x : Elt nu) : Value := .string x.1
def cfE (nu dn : Bool) (x y : Elt nu) : Int := cfOf nu dn x.1 y.1
theorem below_sortWorld {α : Type} [Inhabited α] (enc : α → Value) (w : World) (blk off m : Nat) (dk : Array α) (os : Array Obj) (B : Nat) (hB : B ≤ blk) (hw : B ≤ w.heap.size) : Below B w (sortWorld enc w blk off m dk os) := by
  refine ⟨rfl, rfl, rfl, ?_, fun k hk => ?_⟩
  · show w.heap.size ≤ (Sort.grow (Sort.putRow enc (Sort.ahead w m) blk off dk) os).heap.size
    rw [Sort.size_grow, Sort.size_putRow]
    exact Nat.le_add_right _ _
  · show (Sort.grow (Sort.putRow enc (Sort.ahead w m) blk off dk) os).heap[k]? = _
    rw [Sort.heap_grow_old _ _ (by rw [Sort.size_putRow]; show k < w.heap.size; omega)]
    show (w.heap.modify blk _)[k]? = _
    rw [Array.getElem?_modify, if_neg (by omega)]
theorem cmpLays (nu dn : Bool) (p4 p5 blk n : Nat) (w3 w : World) (hG : Glob w3) (hb : Below w3.heap.size w3 w) (hblk : w3.heap.size ≤ blk) (h4 : w3.cell? ⟨p4, 0, none⟩ = some (.bool nu)) (h5 : w3.cell? ⟨p5, 0, none⟩ = some (.bool dn)) :
    CmpLays1 Tryd.prog 43 #[.pointer (some ⟨p4, 0, none⟩), .pointer (some ⟨p5, 0, none⟩)] (encE (nu := nu)) (cfE nu dn) blk 0 n w := by
  intro m os dk _ x y
  have bw : Below w3.heap.size w3 (sortWorld encE w blk 0 m dk os) := hb.trans (below_sortWorld encE w blk 0 m dk os _ hblk hb.size)
  have c4 := (bw.cell (World.block_lt_of_cell? w3 _ h4)).trans h4
  have c5 := (bw.cell (World.block_lt_of_cell? w3 _ h5)).trans h5
  have g := hG.below bw
  cases nu with
  | false => exact closure_s dn p4 p5 x.1 y.1 _ c4 c5
  | true => exact closure_n dn p4 p5 x.1 y.1 _ c4 c5 (x.2 rfl) (y.2 rfl) g
theorem ins_calls (nu dn : Bool) (p4 p5 blk cap : Nat) (d : Array (Elt nu)) (w3 w : World) (hG : Glob w3) (hb : Below w3.heap.size w3 w) (hblk : w3.heap.size ≤ blk) (h4 : w3.cell? ⟨p4, 0, none⟩ = some (.bool nu)) (h5 : w3.cell? ⟨p5, 0, none⟩ = some (.bool dn))
    (hlt : blk < w.heap.size) (hH : Sort.Holds encE w blk 0 d) (hn : d.size ≤ 16) :
    Calls Tryd.prog 71 #[.slice (some ⟨blk, 0, none⟩) d.size cap, .int .i64 0, .int .i64 d.size, .func (.func 43) #[] #[.pointer (some ⟨p4, 0, none⟩), .pointer (some ⟨p5, 0, none⟩)]] w fun e w' =>
      e = .returned (.tuple #[]) ∧ SW encE w blk 0 (Sort.insertionSort (ltOf (cfE nu dn)) d 0 d.size) w' := by
  have eg : ∀ args w, (callFunc 43 args).run Tryd.prog w = .ok (.enter 43 args) w := enters_of Tryd.func43 (by kernel_rfl) rfl
  exact Any.insertionSortCmpFunc_s Tryd.insStr encE (cfE nu dn) 43 _ blk 0 cap 0 d.size d d w w eg (cmpLays nu dn p4 p5 blk d.size w3 w hG hb hblk h4 h5) ⟨fun _ => rfl, hH, hlt⟩ rfl (SW.start hH) (Nat.zero_le _) (Nat.le_refl _) (by omega)
set_option maxHeartbeats 1000000 in
set_option maxRecDepth 100000 in
theorem stable_of (Q : World → Prop) (A : Option Addr) (n : Nat) (cap : Nat) (F : Value) (w : World) (hn : n ≤ 16)
    (hcon : Calls Tryd.prog 71 #[.slice A n cap, .int .i64 0, .int .i64 n, F] w fun e w' => e = .returned (.tuple #[]) ∧ Q w') :
    Calls Tryd.prog 59 #[.slice A n cap, .int .i64 n, F] w fun e w' => e = .returned (.tuple #[]) ∧ Q w' := by
  have b0 : decide ((20 : Int) ≤ (n : Int)) = false := decide_eq_false (by omega)
  have b1 : decide ((20 : Int) < (n : Int)) = false := decide_eq_false (by omega)
  have b2 : decide (20 ≤ n) = false := decide_eq_false (by omega)
  have b3 : decide (20 < n) = false := decide_eq_false (by omega)
  clear hn
  go_enter Tryd.func59, Tryd.ntmps59
  go_wp2
  refine wp_loop_rounds 1 ?_
  rw [rounds_succ]
  go_wp2_with (go_at_call 71; refine hcon.mono ?_; rintro e w' ⟨rfl, hq⟩)
  refine wp_loop_rounds 1 ?_
  rw [rounds_succ]
  go_wp2
  go_end0
  exact ⟨rfl, hq⟩
set_option maxHeartbeats 1000000 in
set_option maxRecDepth 100000 in
theorem sortStable_of (Q : World → Prop) (A : Option Addr) (n : Nat) (cap : Nat) (F : Value) (w : World) (hn : n ≤ 16)
    (hcon : Calls Tryd.prog 71 #[.slice A n cap, .int .i64 0, .int .i64 n, F] w fun e w' => e = .returned (.tuple #[]) ∧ Q w') :
    Calls Tryd.prog 42 #[.slice A n cap, F] w fun e w' => e = .returned (.tuple #[]) ∧ Q w' := by
  have hcon := stable_of Q A n cap F w hn hcon
  go_enter Tryd.func42, Tryd.ntmps42
  go_wp2_with (go_at_call 59; refine hcon.mono ?_; rintro e w' ⟨rfl, hq⟩)
  go_end0
  exact ⟨rfl, hq⟩
set_option maxHeartbeats 1000000 in
set_option maxRecDepth 100000 in
theorem ins_none (A : Option Addr) (cap : Nat) (F : Value) (w : World) :
    Calls Tryd.prog 71 #[.slice A 0 cap, .int .i64 0, .int .i64 0, F] w fun e w' => e = .returned (.tuple #[]) ∧ w' = w := by
  go_enter Tryd.func71, Tryd.ntmps71
  go_wp2
  refine wp_loop_rounds 1 ?_
  rw [rounds_succ]
  go_wp2
  go_end0
  exact ⟨rfl, rfl⟩
/-! ### Behind the sort: the row as what it holds -/
theorem heap_sortWorld {α : Type} [Inhabited α] (enc : α → Value) (w : World) (g off m : Nat) (dk : Array α) (os : Array Obj) (cs : Array Value) (t : TypeId) (fz : Nat × Nat) (h : w.heap[g]? = some (.cells cs t fz)) :
    (sortWorld enc w g off m dk os).heap[g]? = some (.cells (Sort.putCells enc off dk cs) t fz) := by
  show (Sort.grow (Sort.putRow enc (Sort.ahead w m) g off dk) os).heap[g]? = _
  have hlt : g < w.heap.size := (Array.getElem?_eq_some_iff.1 h).1
  rw [Sort.heap_grow_old _ _ (by rw [Sort.size_putRow]; exact hlt)]
  show (w.heap.modify g (Sort.onCells (Sort.putCells enc off dk)))[g]? = _
  rw [Array.getElem?_modify, if_pos rfl, h]
  rfl
theorem sw_R {nu : Bool} {w w' : World} {base g cap : Nat} {l : List ByteArray} {d' : Array (Elt nu)} (h : Kd.R Kd.string 9 w base (fun _ => True) (.slice (some ⟨g, 0, none⟩) l.length cap) l)
    (hs : d'.size = l.length) (S : SW encE w g 0 d' w') : Kd.R Kd.string 9 w' base (fun _ => True) (.slice (some ⟨g, 0, none⟩) l.length cap) (d'.toList.map (·.1)) := by
  obtain ⟨m, os, rfl⟩ := S
  obtain ⟨hl, h2⟩ := Kd.own_of_R h
  have hlen : (d'.toList.map (·.1)).length = l.length := by rw [List.length_map, Array.length_toList, hs]
  refine Kd.R_of_own ⟨by rw [encs_length, Nat.mul_one], ?_⟩ (fun _ _ => trivial)
  rcases h2 with ⟨e, hn⟩ | ⟨g', cap', cur, e, hb, hc, h3, h4, h5, h6⟩
  · cases e
  · injection e with e1 e2 e3
    injection e1 with e1
    injection e1 with e1
    subst e1
    subst e3
    refine .inr ⟨g, cap, Sort.putCells encE 0 d' cur, by rw [hlen], hb, heap_sortWorld encE w g 0 m d' os cur 9 (0, 0) hc, by rw [hlen]; exact h3, h4, by simpa [Sort.putCells] using h5, ?_⟩
    rw [hlen, Nat.mul_one]
    apply List.ext_getElem?
    intro i
    rw [List.getElem?_take]
    by_cases hi : i < l.length
    · rw [if_pos hi]
      have hcur : i < cur.size := by omega
      have hd : i < d'.size := by omega
      rw [Array.getElem?_toList]
      simp only [Sort.putCells, Array.getElem?_mapIdx, encs, List.getElem?_map, Array.getElem?_toList, Array.getElem?_eq_getElem hcur, Array.getElem?_eq_getElem hd, Option.map_some]
      rw [if_pos ⟨Nat.zero_le _, by omega⟩, Nat.sub_zero, getElem!_pos d' i hd]
      rfl
    · rw [if_neg hi]
      symm
      rw [List.getElem?_eq_none]
      rw [encs_length, hlen]
      omega
/-! ### The order -/
theorem cmpS_neg (x y : ByteArray) : (cmpS x y < 0) ↔ Op.bytesLess x.toList y.toList = true := by
  unfold cmpS
  split
  · simp [*]
  · split <;> simp [*]
theorem cmpS_pos (x y : ByteArray) : (0 < cmpS x y) ↔ Op.bytesLess y.toList x.toList = true := by
  unfold cmpS
  split
  · rename_i h
    simp [sLess_asym h]
  · split <;> simp [*]
theorem cmpI_neg (m n : Int) : (cmpI m n < 0) ↔ m < n := by
  unfold cmpI
  split
  · simp [*]
  · split
    · simp; omega
    · simp; omega
theorem cmpI_pos (m n : Int) : (0 < cmpI m n) ↔ n < m := by
  unfold cmpI
  split
  · simp; omega
  · split
    · simp; omega
    · simp; omega
/-- 'x comes ahead of y', as the closure has it. -/
def ltS (nu dn : Bool) (x y : ByteArray) : Bool := decide (cfOf nu dn x y < 0)
theorem ltS_s (x y : ByteArray) : ltS false false x y = Op.bytesLess x.toList y.toList := by
  unfold ltS cfOf ordOf
  simp only [Bool.false_eq_true, if_false]
  rw [Bool.eq_iff_iff, decide_eq_true_iff, cmpS_neg]
theorem ltS_n (x y : ByteArray) : ltS true false x y = decide (atoiV x < atoiV y) := by
  unfold ltS cfOf ordOf
  simp only [Bool.false_eq_true, if_false, if_true]
  rw [Bool.eq_iff_iff, decide_eq_true_iff, cmpI_neg, decide_eq_true_iff]
theorem ltS_down (nu : Bool) (x y : ByteArray) : ltS nu true x y = ltS nu false y x := by
  cases nu with
  | false =>
    rw [ltS_s]
    unfold ltS cfOf ordOf
    simp only [Bool.false_eq_true, if_false, if_true]
    rw [Bool.eq_iff_iff, decide_eq_true_iff, ← cmpS_pos]
    omega
  | true =>
    rw [ltS_n]
    unfold ltS cfOf ordOf
    simp only [if_true]
    rw [Bool.eq_iff_iff, decide_eq_true_iff, decide_eq_true_iff]
    exact Iff.trans (b := 0 < cmpI (atoiV x) (atoiV y)) (by omega) (cmpI_pos _ _)
theorem sLess_ntrans {x y z : List UInt8} (h : Op.bytesLess x y = false) (k : Op.bytesLess y z = false) : Op.bytesLess x z = false := by
  cases e : Op.bytesLess x z with
  | false => rfl
  | true =>
    cases e2 : Op.bytesLess y x with
    | true => rw [sLess_trans e2 e] at k; cases k
    | false => rw [sLess_eq h e2] at k; rw [e] at k; cases k
theorem ba_ext {x y : ByteArray} (h : x.toList = y.toList) : x = y := by
  rw [Lib.toList_data, Lib.toList_data] at h
  obtain ⟨⟨a⟩⟩ := x
  obtain ⟨⟨b⟩⟩ := y
  simp at h
  rw [h]
theorem numT_inj {x y : ByteArray} (hx : NumT x) (hy : NumT y) (h : atoiV x = atoiV y) : x = y :=
  ba_ext (by rw [← (numT_parts hx).2.2.2, ← (numT_parts hy).2.2.2, h])
theorem swo_ltS (nu dn : Bool) : Sort.SWO (ltS nu dn) := by
  have h0 : Sort.SWO (ltS nu false) := by
    cases nu with
    | false =>
      refine ⟨fun x => ?_, fun x y z h k => ?_, fun x y z h k => ?_⟩
      · rw [ltS_s]; exact sLess_irrefl _
      · rw [ltS_s] at *; exact sLess_trans h k
      · rw [ltS_s] at *; exact sLess_ntrans h k
    | true =>
      refine ⟨fun x => ?_, fun x y z h k => ?_, fun x y z h k => ?_⟩
      · rw [ltS_n]; simp
      · rw [ltS_n] at *; simp at *; omega
      · rw [ltS_n] at *; simp at *; omega
  cases dn with
  | false => exact h0
  | true =>
    refine ⟨fun x => ?_, fun x y z h k => ?_, fun x y z h k => ?_⟩
    · rw [ltS_down]; exact h0.irrefl x
    · rw [ltS_down] at *; exact h0.trans _ _ _ k h
    · rw [ltS_down] at *; exact h0.ntrans _ _ _ k h
theorem ltS_anti0 {nu : Bool} {x y : ByteArray} (hx : nu = true → NumT x) (hy : nu = true → NumT y) (h : ltS nu false x y = false) (k : ltS nu false y x = false) : x = y := by
  cases nu with
  | false => rw [ltS_s] at *; exact ba_ext (sLess_eq k h)
  | true => rw [ltS_n] at *; simp at h k; exact numT_inj (hx rfl) (hy rfl) (by omega)
theorem ltS_anti {nu dn : Bool} {x y : ByteArray} (hx : nu = true → NumT x) (hy : nu = true → NumT y) (h : ltS nu dn x y = false) (k : ltS nu dn y x = false) : x = y := by
  cases dn with
  | false => exact ltS_anti0 hx hy h k
  | true => rw [ltS_down] at *; exact ltS_anti0 hx hy k h
/-- The list in order. -/
def sortL (nu dn : Bool) (l : List ByteArray) : List ByteArray := l.mergeSort fun x y => !ltS nu dn y x
theorem ins_sorted (nu dn : Bool) (d : Array (Elt nu)) : (Sort.insertionSort (ltOf (cfE nu dn)) d 0 d.size).size = d.size ∧ (Sort.insertionSort (ltOf (cfE nu dn)) d 0 d.size).toList.map (·.1) = sortL nu dn (d.toList.map (·.1)) := by
  have hS : Sort.SWO (ltOf (cfE nu dn)) := by
    have h := swo_ltS nu dn
    exact ⟨fun x => h.irrefl x.1, fun x y z => h.trans x.1 y.1 z.1, fun x y z => h.ntrans x.1 y.1 z.1⟩
  obtain ⟨hP, hSo⟩ := Sort.insertionSort_holds hS d 0 d.size (Nat.zero_le _) (Nat.le_refl _)
  refine ⟨hP.1, ?_⟩
  rw [Sort.sorted_unique_holds hS (fun x y h k => Subtype.ext (ltS_anti (nu := nu) (dn := dn) x.2 y.2 h k)) d _ hP hSo]
  exact List.map_mergeSort (fun _ _ _ _ => rfl)
/-! ### impl.ListSort -/
def okL (l : List ByteArray) : Bool := l.all (fun x => decide (x.size ≤ 40)) && decide (l.length ≤ 16)
theorem wrap64_in {x : Int} (h0 : -9223372036854775808 ≤ x) (h1 : x ≤ 9223372036854775807) : wrap64 x = x := by
  unfold wrap64; omega
theorem textsOk_loop (l : List ByteArray) (hl : l.length ≤ 1099511627776) : ∀ (n i : Nat), i + n = l.length → impl_textsOk.l0 (n + 1) l 16 l (l.length : Int) (i : Int) = some ((l.drop i).all (fun x => decide (x.size ≤ 40)) && decide (l.length ≤ 16))
  | 0, i, h => by
    unfold impl_textsOk.l0
    rw [if_neg (by omega), List.drop_eq_nil_of_le (by omega)]
    simp
    omega
  | n + 1, i, h => by
    have hi : i < l.length := by omega
    unfold impl_textsOk.l0
    rw [if_pos (by omega), if_pos (by omega), if_pos (by omega), wrap64_in (by omega) (by omega), List.drop_eq_getElem_cons hi]
    have e : rdOf ByteArray.empty l (i : Int) = l[i] := by
      unfold rdOf
      rw [List.getD_eq_getElem?_getD, Int.toNat_natCast, List.getElem?_eq_getElem hi]
      rfl
    rw [e]
    by_cases hs : l[i].size ≤ 40
    · rw [if_neg (by omega)]
      have := textsOk_loop l hl n (i + 1) (by omega)
      rw [show ((i : Int) + 1) = ((i + 1 : Nat) : Int) by omega, this]
      simp only [List.all_cons, decide_eq_true hs, Bool.true_and]
    · rw [if_pos (by omega)]
      simp only [List.all_cons, decide_eq_false hs, Bool.false_and]
theorem listOk_f (l : List ByteArray) (hl : l.length ≤ 1099511627776) : impl_listOk.f (l.length + 1) l = some (okL l) := by
  unfold impl_listOk.f impl_textsOk.f okL
  have := textsOk_loop l hl l.length 0 (by omega)
  simp only [Int.natCast_zero, Int.ofNat_zero, List.drop_zero] at this
  rw [this]
  rfl
theorem copied_f (l : List ByteArray) (hl : l.length ≤ 1099511627776) : impl_copied.f l = some l := by
  unfold impl_copied.f
  simp only [Option.bind_some, List.length_nil, Nat.zero_add, List.nil_append]
  rw [if_pos (by omega)]
def numB (x : ByteArray) : Bool := match impl_IntGet.f x with
  | some (_, b) => b
  | none => false
def impl_ListSort.f (l0 : List ByteArray) (a1 : Bool) (a2 : Bool) : Option (List ByteArray × Bool) :=
  if l0.length ≤ 1099511627776 then
    (if okL l0 = true then (if a1 = true then (if l0.all numB = true then some (sortL true a2 l0, true) else some (l0, false)) else some (sortL false a2 l0, true)) else some ([], false))
  else none
theorem intGet_some {x : ByteArray} (h : x.size ≤ 281474976710656) : ∃ v, impl_IntGet.f x = some (v, numB x) := by
  unfold numB
  cases e : impl_IntGet.f x with
  | some p => exact ⟨p.1, rfl⟩
  | none =>
    exfalso
    unfold impl_IntGet.f at e
    rw [if_pos h] at e
    split at e
    · split at e
      · split at e <;> cases e
      · cases e
    · cases e
theorem numB_numT {x : ByteArray} (h : numB x = true) : NumT x := by
  unfold numB at h
  split at h
  · rename_i v b e
    subst h
    exact (numT_of e).2
  · cases h
theorem blk_newAt (w : World) (o : Obj) (n : Nat) (h : n = w.heap.size) : (w.alloc o).heap[n]? = some o := by
  subst h
  show (w.heap.push o)[w.heap.size]? = some o
  exact Array.getElem?_push_size
set_option maxHeartbeats 4000000 in
set_option maxRecDepth 100000 in
theorem listSort_bad (A0 : Option Addr) (c0 : Nat) (l0 : List ByteArray) (a1 : Bool) (a2 : Bool) (w : World) (hr0 : Kd.C Kd.string w A0 l0.length l0) (hc0 : l0.length ≤ c0) (hl : l0.length ≤ 1099511627776) (hk : okL l0 = false) :
    Calls Tryd.prog 17 #[.slice A0 l0.length c0, .bool a1, .bool a2] w fun e w' => ∃ v0_ : Value, e = .returned (.tuple #[v0_, .bool false]) ∧ Kd.R Kd.string 9 w' w.heap.size (fun _ => True) v0_ [] ∧ Below w.heap.size w w' := by
  have HR0 := Aside0.mk hr0
  have HC0 := Aside0.mk hc0
  have HF := Aside0.mk (listOk_f l0 hl)
  rw [hk] at HF
  clear hr0 hc0 hl hk
  go_enter Tryd.func17, Tryd.ntmps17
  go_wp2_with fail
  refine (impl_listOk.calls _ _ _ l0 _ _ (Kd.C_below HR0.out (by repeat (first | exact Below.refl _ _ | apply below_alloc))) HC0.out HF.out).mono ?_
  rintro e w1 ⟨rfl, ⟨nd, rfl⟩⟩
  go_wp2_with fail
  go_ret2
  refine ⟨_, rfl, ?_, ?_⟩
  · refine ⟨fun _ _ => trivial, [], ⟨rfl, .inr ⟨_, 0, #[], rfl, ?_, blk_newAt _ _ _ (by simp [World.drewN]), Nat.le_refl _, Nat.zero_le _, rfl, rfl⟩⟩, Reps.none _ _⟩
    omega
  · exact below_alloc (below_drewN (below_alloc (below_alloc (Below.refl _ _) _) _) _) _
theorem pmap_elt {nu : Bool} : ∀ (l : List ByteArray) (h : ∀ x ∈ l, nu = true → NumT x), ((l.pmap (fun x hx => (⟨x, hx⟩ : Elt nu)) h)).map (·.1) = l
  | [], _ => rfl
  | x :: l, h => by
    rw [List.pmap_cons, List.map_cons, pmap_elt l]
theorem sort_calls (nu dn : Bool) (p4 p5 : Nat) (l : List ByteArray) (w3 w : World) (base : Nat) (v : Value) (hR : Kd.R Kd.string 9 w base (fun _ => True) v l) (hG : Glob w3) (hb : Below w3.heap.size w3 w) (hbase : w3.heap.size ≤ base)
    (h4 : w3.cell? ⟨p4, 0, none⟩ = some (.bool nu)) (h5 : w3.cell? ⟨p5, 0, none⟩ = some (.bool dn)) (hlen : l.length ≤ 16) (hn : ∀ x ∈ l, nu = true → NumT x) :
    Calls Tryd.prog 42 #[v, .func (.func 43) #[] #[.pointer (some ⟨p4, 0, none⟩), .pointer (some ⟨p5, 0, none⟩)]] w fun e w' =>
      e = .returned (.tuple #[]) ∧ (Kd.R Kd.string 9 w' base (fun _ => True) v (sortL nu dn l) ∧ Below w3.heap.size w3 w') := by
  by_cases hl : l = []
  · subst hl
    obtain ⟨A, c, rfl⟩ := Kd.R_slice hR
    refine (sortStable_of (fun w' => w' = w) A 0 c _ w (by omega) (ins_none A c _ w)).mono ?_
    rintro e w' ⟨rfl, rfl⟩
    refine ⟨rfl, ?_, hb⟩
    have : sortL nu dn [] = [] := by simp [sortL]
    rw [this]
    exact hR
  · obtain ⟨g, cap, rfl, hg, hlt, _⟩ := Kd.R_form hR (List.length_pos_iff.2 hl)
    obtain ⟨d, hd⟩ : ∃ d : Array (Elt nu), d.toList.map (·.1) = l := ⟨(l.pmap (fun x hx => (⟨x, hx⟩ : Elt nu)) hn).toArray, pmap_elt l hn⟩
    have hsz : d.size = l.length := by rw [← hd, List.length_map, Array.length_toList]
    have hH : Sort.Holds encE w g 0 d := by
      intro j hj
      obtain ⟨hc, hf⟩ := Kd.R_cell ByteArray.empty hR (j : Int) (by omega) (by omega)
      rw [Int.toNat_natCast] at hc hf
      rw [Nat.zero_add]
      refine ⟨?_, hf⟩
      rw [hc]
      have : rdOf ByteArray.empty l (j : Int) = (d[j]!).1 := by
        unfold rdOf
        rw [List.getD_eq_getElem?_getD, Int.toNat_natCast, ← hd, List.getElem?_map, Array.getElem?_toList, Array.getElem?_eq_getElem hj, getElem!_pos d j hj]
        rfl
      rw [this]
      rfl
    have hcon := ins_calls nu dn p4 p5 g cap d w3 w hG hb (Nat.le_trans hbase hg) h4 h5 hlt hH (by omega)
    obtain ⟨i1, i2⟩ := ins_sorted nu dn d
    generalize Sort.insertionSort (ltOf (cfE nu dn)) d 0 d.size = r at hcon i1 i2
    rw [hsz] at hcon
    refine (sortStable_of _ _ _ _ _ w hlen hcon).mono ?_
    rintro e w' ⟨rfl, S⟩
    refine ⟨rfl, ?_, ?_⟩
    · have := sw_R hR (i1.trans hsz) S
      rw [i2, hd] at this
      exact this
    · obtain ⟨m, os, rfl⟩ := S
      exact hb.trans (below_sortWorld encE w g 0 m r os _ (Nat.le_trans hbase hg) hb.size)
set_option maxHeartbeats 4000000 in
set_option maxRecDepth 100000 in
theorem listSort_s (A0 : Option Addr) (c0 : Nat) (l0 : List ByteArray) (a2 : Bool) (w : World) (hr0 : Kd.C Kd.string w A0 l0.length l0) (hc0 : l0.length ≤ c0) (hG : Glob w) (hl : l0.length ≤ 1099511627776) (hk : okL l0 = true) :
    Calls Tryd.prog 17 #[.slice A0 l0.length c0, .bool false, .bool a2] w fun e w' => ∃ v0_ : Value, e = .returned (.tuple #[v0_, .bool true]) ∧ Kd.R Kd.string 9 w' w.heap.size (fun _ => True) v0_ (sortL false a2 l0) ∧ Below w.heap.size w w' := by
  have HR0 := Aside0.mk hr0
  have HC0 := Aside0.mk hc0
  have HF := Aside0.mk (listOk_f l0 hl)
  have HF2 := Aside0.mk (copied_f l0 hl)
  rw [hk] at HF
  have HL := Aside0.mk (show l0.length ≤ 16 by simp [okL] at hk; exact hk.2)
  have HG := Aside0.mk hG
  clear hr0 hc0 hl hk hG
  go_enter Tryd.func17, Tryd.ntmps17
  go_wp2_with fail
  refine (impl_listOk.calls _ _ _ l0 _ _ (Kd.C_below HR0.out (by repeat (first | exact Below.refl _ _ | apply below_alloc))) HC0.out HF.out).mono ?_
  rintro e w1 ⟨rfl, ⟨nd, rfl⟩⟩
  have HB := Aside0.mk (below_drewN (below_alloc (below_alloc (Below.refl w.heap.size w) (.cells #[.bool false] 4 (0, 0))) (.cells #[.bool a2] 4 (0, 0))) nd)
  have c4 : (((w.alloc (.cells #[.bool false] 4 (0, 0))).alloc (.cells #[.bool a2] 4 (0, 0))).drewN nd).cell? ⟨w.heap.size, 0, none⟩ = some (.bool false) :=
    (blk_cell (cs := #[.bool false]) (t := 4) (blk_alloc (blk_newAt w _ _ rfl) _) 0).trans rfl
  have c5 : (((w.alloc (.cells #[.bool false] 4 (0, 0))).alloc (.cells #[.bool a2] 4 (0, 0))).drewN nd).cell? ⟨w.heap.size + 1, 0, none⟩ = some (.bool a2) :=
    (blk_cell (cs := #[.bool a2]) (t := 4) (blk_newAt (w.alloc _) _ _ (by simp)) 0).trans rfl
  go_wp2_with fail
  generalize ((w.alloc (.cells #[.bool false] 4 (0, 0))).alloc (.cells #[.bool a2] 4 (0, 0))).drewN nd = w3 at HB c4 c5 ⊢
  refine (impl_copied.calls _ _ l0 l0 _ (Kd.C_below HR0.out HB.out) HC0.out HF2.out).mono ?_
  rintro e w4 ⟨v, rfl, hR, hb⟩
  have HC4 := Aside0.mk c4
  have HC5 := Aside0.mk c5
  have HR := Aside0.mk hR
  have HB4 := Aside0.mk hb
  have d4 := (hb.cell (World.block_lt_of_cell? w3 _ c4)).trans c4
  clear c4 c5 hR hb
  go_wp2_with fail
  refine (sort_calls false a2 _ _ l0 w3 w4 w3.heap.size v HR.out (HG.out.below HB.out) HB4.out (Nat.le_refl _) HC4.out HC5.out HL.out (fun _ _ h => by cases h)).mono ?_
  rintro e w5 ⟨rfl, hR5, hb5⟩
  have HR5 := Aside0.mk hR5
  have HB5 := Aside0.mk hb5
  clear hR5 hb5 d4
  go_wp2_with fail
  go_ret2
  exact ⟨_, rfl, Kd.R_lower HR5.out HB.out.size, HB.out.trans (HB5.out.mono HB.out.size)⟩
theorem all_take_succ (l : List ByteArray) (i : Nat) (hi : i < l.length) (p : ByteArray → Bool) (h : (l.take i).all p = true) (hp : p l[i] = true) : (l.take (i + 1)).all p = true := by
  rw [List.take_succ_eq_append_getElem hi, List.all_append, h]
  simp [hp]
theorem rdOf_at (l : List ByteArray) (i : Nat) (hi : i < l.length) : rdOf ByteArray.empty l (i : Int) = l[i] := by
  unfold rdOf
  rw [List.getD_eq_getElem?_getD, Int.toNat_natCast, List.getElem?_eq_getElem hi]
  rfl
def okN (l : List ByteArray) : Bool := l.all numB
def resN (dn : Bool) (l : List ByteArray) : List ByteArray := if okN l = true then sortL true dn l else l
theorem resN_t {dn : Bool} {l : List ByteArray} (h : okN l = true) : resN dn l = sortL true dn l := by unfold resN; rw [if_pos h]
theorem resN_f {dn : Bool} {l : List ByteArray} (h : okN l = false) : resN dn l = l := by unfold resN; rw [h]; rfl
set_option maxHeartbeats 4000000 in
set_option maxRecDepth 100000 in
theorem listSort_n (A0 : Option Addr) (c0 : Nat) (l0 : List ByteArray) (a2 : Bool) (w : World) (hr0 : Kd.C Kd.string w A0 l0.length l0) (hc0 : l0.length ≤ c0) (hG : Glob w) (hl : l0.length ≤ 1099511627776) (hk : okL l0 = true) :
    Calls Tryd.prog 17 #[.slice A0 l0.length c0, .bool true, .bool a2] w fun e w' => ∃ v0_ : Value, e = .returned (.tuple #[v0_, .bool (okN l0)]) ∧ Kd.R Kd.string 9 w' w.heap.size (fun _ => True) v0_ (resN a2 l0) ∧ Below w.heap.size w w' := by
  have HR0 := Aside0.mk hr0
  have HC0 := Aside0.mk hc0
  have HF := Aside0.mk (listOk_f l0 hl)
  have HF2 := Aside0.mk (copied_f l0 hl)
  rw [hk] at HF
  have HL := Aside0.mk (show l0.length ≤ 16 by simp [okL] at hk; exact hk.2)
  have HS := Aside0.mk (show ∀ x ∈ l0, x.size ≤ 40 by simp [okL] at hk; exact hk.1)
  have HG := Aside0.mk hG
  clear hr0 hc0 hl hk hG
  go_enter Tryd.func17, Tryd.ntmps17
  go_wp2_with fail
  refine (impl_listOk.calls _ _ _ l0 _ _ (Kd.C_below HR0.out (by repeat (first | exact Below.refl _ _ | apply below_alloc))) HC0.out HF.out).mono ?_
  rintro e w1 ⟨rfl, ⟨nd, rfl⟩⟩
  have HB := Aside0.mk (below_drewN (below_alloc (below_alloc (Below.refl w.heap.size w) (.cells #[.bool true] 4 (0, 0))) (.cells #[.bool a2] 4 (0, 0))) nd)
  have c4 : (((w.alloc (.cells #[.bool true] 4 (0, 0))).alloc (.cells #[.bool a2] 4 (0, 0))).drewN nd).cell? ⟨w.heap.size, 0, none⟩ = some (.bool true) :=
    (blk_cell (cs := #[.bool true]) (t := 4) (blk_alloc (blk_newAt w _ _ rfl) _) 0).trans rfl
  have c5 : (((w.alloc (.cells #[.bool true] 4 (0, 0))).alloc (.cells #[.bool a2] 4 (0, 0))).drewN nd).cell? ⟨w.heap.size + 1, 0, none⟩ = some (.bool a2) :=
    (blk_cell (cs := #[.bool a2]) (t := 4) (blk_newAt (w.alloc _) _ _ (by simp)) 0).trans rfl
  go_wp2_with fail
  generalize ((w.alloc (.cells #[.bool true] 4 (0, 0))).alloc (.cells #[.bool a2] 4 (0, 0))).drewN nd = w3 at HB c4 c5 ⊢
  refine (impl_copied.calls _ _ l0 l0 _ (Kd.C_below HR0.out HB.out) HC0.out HF2.out).mono ?_
  rintro e w4 ⟨v, rfl, hR, hb⟩
  have HC4 := Aside0.mk c4
  have HC5 := Aside0.mk c5
  have HR := Aside0.mk hR
  have HB4 := Aside0.mk hb
  have d4 := (hb.cell (World.block_lt_of_cell? w3 _ c4)).trans c4
  clear c4 c5 hR hb
  go_wp2_with fail
  clear d4
  go_loopg [22] l0.length (fun kq v22 w' => ∃ (i : Nat), v22 = .int .i64 i ∧ i ≤ l0.length ∧ l0.length - i ≤ kq ∧ Aside0 ((l0.take i).all numB = true) ∧ Aside0 (Kd.R Kd.string 9 w' w3.heap.size (fun _ => True) v l0) ∧ Aside0 (Below w3.heap.size w3 w'))
  case atStart => exact ⟨0, rfl, Nat.zero_le _, Nat.le_refl _, ⟨rfl⟩, HR, HB4⟩
  case round =>
    clear HR HB4
    obtain ⟨i, rfl, hi, hk, HA, HR, HBr⟩ := hrel
    by_cases hlt : i < l0.length
    · have hltz : ((i : Int) < (l0.length : Int)) := by omega
      have hd : decide ((i : Int) < (l0.length : Int)) = true := decide_eq_true hltz
      have p : 0 ≤ (i : Int) := by omega
      obtain ⟨ad, ea, hx⟩ := Kd.at_string HR0.out (i : Int) p hltz
      have HBw := Aside0.mk (HB.out.trans (HBr.out.mono HB.out.size))
      replace hx := (HBw.out.cell (World.block_lt_of_cell? w _ hx)).trans hx
      rw [rdOf_at l0 i hlt, Int.toNat_natCast] at hx
      cases ea
      obtain ⟨vi, hvi⟩ := intGet_some (x := l0[i]) (Nat.le_trans (HS.out _ (List.getElem_mem hlt)) (by decide))
      obtain ⟨x, hxe⟩ : ∃ x, x = l0[i] := ⟨_, rfl⟩
      rw [← hxe] at hx hvi
      have HV := Aside0.mk hvi
      have HX := Aside0.mk hxe
      clear hvi hxe
      have p2 : (0 ≤ (i : Int)) = True := eq_true p
      have q2 : ((i : Int) < (l0.length : Int)) = True := eq_true hltz
      cases hb : numB x with
      | true =>
        rw [hb] at HV
        go_wp2_with fail
        refine (impl_IntGet.calls x vi true _ (HG.out.below HBw.out) HV.out).mono ?_
        rintro e w5 ⟨rfl, hb5⟩
        have HR5 := Aside0.mk (Kd.R_below HR.out hb5)
        have HB5 := Aside0.mk (HBr.out.trans (hb5.mono HBr.out.size))
        clear hb5 hx
        go_wp2_with fail
        go_roundg (l0.length - (i + 1))
        case measure => omega
        case rel => exact ⟨i + 1, by first | rfl | go_num | (have hl16 := HL.out; congr 1; unfold wrap64; omega), by omega, Nat.le_refl _, ⟨all_take_succ l0 i hlt numB HA.out (by rw [← HX.out]; exact hb)⟩, HR5, HB5⟩
      | false =>
        rw [hb] at HV
        go_wp2_with fail
        refine (impl_IntGet.calls x vi false _ (HG.out.below HBw.out) HV.out).mono ?_
        rintro e w5 ⟨rfl, hb5⟩
        have HR5 := Aside0.mk (Kd.R_below HR.out hb5)
        have HB5 := Aside0.mk (HBr.out.trans (hb5.mono HBr.out.size))
        have hall : l0.all numB = false := by
          rw [List.all_eq_false]
          exact ⟨l0[i], List.getElem_mem hlt, by rw [← HX.out, hb]; decide⟩
        have HALL := Aside0.mk (show okN l0 = _ from hall)
        clear hb5 hx hall
        go_wp2_with fail
        go_ret2
        rw [resN_f HALL.out, HALL.out]
        exact ⟨_, rfl, Kd.R_lower HR5.out HB.out.size, HB.out.trans (HB5.out.mono HB.out.size)⟩
    · have hd : decide ((i : Int) < (l0.length : Int)) = false := decide_eq_false (by omega)
      have hall : l0.all numB = true := by
        have := HA.out
        rw [List.take_of_length_le (by omega)] at this
        exact this
      have HALL := Aside0.mk (show okN l0 = _ from hall)
      have HN := Aside0.mk (show ∀ x ∈ l0, NumT x from fun x hx => numB_numT (List.all_eq_true.1 hall x hx))
      clear hall
      go_wp2_with fail
      refine (sort_calls true a2 _ _ l0 w3 wr w3.heap.size v HR.out (HG.out.below HB.out) HBr.out (Nat.le_refl _) HC4.out HC5.out HL.out (fun x hx _ => HN.out x hx)).mono ?_
      rintro e w5 ⟨rfl, hR5, hb5⟩
      have HR5 := Aside0.mk hR5
      have HB5 := Aside0.mk hb5
      clear hR5 hb5
      go_wp2_with fail
      go_ret2
      rw [resN_t HALL.out, HALL.out]
      exact ⟨_, rfl, Kd.R_lower HR5.out HB.out.size, HB.out.trans (HB5.out.mono HB.out.size)⟩
theorem impl_ListSort.calls (A0 : Option Addr) (c0 : Nat) (l0 : List ByteArray) (a1 : Bool) (a2 : Bool) (r1 : List ByteArray) (r2 : Bool) (w : World) (hr0 : Kd.C Kd.string w A0 l0.length l0) (hc0 : l0.length ≤ c0) (hG : Glob w) (h : impl_ListSort.f l0 a1 a2 = some (r1, r2)) :
    Calls Tryd.prog 17 #[.slice A0 l0.length c0, .bool a1, .bool a2] w fun e w' => ∃ v0_ : Value, e = .returned (.tuple #[v0_, .bool r2]) ∧ Kd.R Kd.string 9 w' w.heap.size (fun _ => True) v0_ r1 ∧ Below w.heap.size w w' := by
  unfold impl_ListSort.f at h
  by_cases hl : l0.length ≤ 1099511627776
  case neg => rw [if_neg hl] at h; cases h
  rw [if_pos hl] at h
  cases hk : okL l0 with
  | false =>
    rw [hk, if_neg (by decide)] at h
    obtain ⟨rfl, rfl⟩ : [] = r1 ∧ false = r2 := by simpa using h
    exact listSort_bad A0 c0 l0 a1 a2 w hr0 hc0 hl hk
  | true =>
    rw [hk, if_pos rfl] at h
    cases a1 with
    | false =>
      rw [if_neg (by decide)] at h
      obtain ⟨rfl, rfl⟩ : sortL false a2 l0 = r1 ∧ true = r2 := by simpa using h
      exact listSort_s A0 c0 l0 a2 w hr0 hc0 hG hl hk
    | true =>
      rw [if_pos rfl] at h
      have hn := listSort_n A0 c0 l0 a2 w hr0 hc0 hG hl hk
      cases hb : okN l0 with
      | true =>
        rw [show l0.all numB = true from hb, if_pos rfl] at h
        obtain ⟨rfl, rfl⟩ : sortL true a2 l0 = r1 ∧ true = r2 := by simpa using h
        rw [resN_t hb, hb] at hn
        exact hn
      | false =>
        rw [show l0.all numB = false from hb, if_neg (by decide)] at h
        obtain ⟨rfl, rfl⟩ : l0 = r1 ∧ false = r2 := by simpa using h
        rw [resN_f hb, hb] at hn
        exact hn

end Go.Proofs.YtkgomifdmpkaeaaDoor
