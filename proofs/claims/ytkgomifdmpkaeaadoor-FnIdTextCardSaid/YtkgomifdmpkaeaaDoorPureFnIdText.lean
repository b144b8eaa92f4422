/- The plain law of FnIdText: what the printed functions compute answers true at every code. -/
import Derived.Test.YtkgomifdmpkaeaaDoorPick
import Derived.Test.YtkgomifdmpkaeaaDoorIdt7
namespace Go.Proofs.YtkgomifdmpkaeaaDoor.Pure
open Go.RowKit Go.Proofs.YtkgomifdmpkaeaaDoor.Idt Go.Proofs.YtkgomifdmpkaeaaDoorW.PrintWords Go.Proofs.YtkgomifdmpkaeaaDoorW.PrintLast

theorem one_spec (k : Nat) (s : List Int) (hs : Bytes s) (hl : s.length ≤ 2000) (p : Int) (l : List Int) (hp0 : 0 ≤ p) (hp : p ≤ 1000000) (h1 : 1 ≤ l.length) (h2 : l.length ≤ 1000000) :
    ∃ v, v ∈ l ∧ spec_l1Rd_one.f (k + 1) s p l = some (v, p + 1) := by
  obtain ⟨r, hr, r0, r1⟩ := pick_spec k s hs hl p (l.length : Int) hp0 hp (by omega) (by omega)
  refine ⟨rd l r, ?_, ?_⟩
  · unfold rd
    rw [List.getD_eq_getElem?_getD, List.getElem?_eq_getElem (by omega), Option.getD_some]
    exact List.getElem_mem _
  · unfold spec_l1Rd_one.f
    rw [hr]
    simp only [Option.bind_some]
    rw [if_pos r0, if_pos r1]
theorem of_spec (k : Nat) (s : List Int) (hs : Bytes s) (hl : s.length ≤ 2000) (p : Int) (l : List ByteArray) (hp0 : 0 ≤ p) (hp : p ≤ 1000000) (h1 : 1 ≤ l.length) (h2 : l.length ≤ 1000000) :
    ∃ v, v ∈ l ∧ spec_l1Rd_of.f (k + 1) s p l = some (v, p + 1) := by
  obtain ⟨r, hr, r0, r1⟩ := pick_spec k s hs hl p (l.length : Int) hp0 hp (by omega) (by omega)
  refine ⟨rdOf ByteArray.empty l r, ?_, ?_⟩
  · unfold rdOf
    rw [List.getD_eq_getElem?_getD, List.getElem?_eq_getElem (by omega), Option.getD_some]
    exact List.getElem_mem _
  · unfold spec_l1Rd_of.f
    rw [hr]
    simp only [Option.bind_some]
    rw [if_pos r0, if_pos r1]

def times : List Int := [0, 1, 3, 5, 9, 1000000]
def numbers : List Int := [0, 0, 1, 2, 1000000000]
def ids : List (Int × Int) := (times.flatMap fun t => numbers.map fun n => (t, n)) ++ ([(-1), 1000001].flatMap fun t => numbers.map fun n => (t, n)) ++ (times.flatMap fun t => [(-1), 1000000001].map fun n => (t, n))

theorem anyId_spec (k : Nat) (s : List Int) (hs : Bytes s) (hl : s.length ≤ 2000) (p : Int) (hp0 : 0 ≤ p) (hp : p ≤ 1000) :
    ∃ a p', a ∈ ids ∧ 0 ≤ p' ∧ p' ≤ p + 4 ∧ spec_l11AnyId.f (k + 1) s p = some (a.1, a.2, p') := by
  obtain ⟨t, ht, e1⟩ := one_spec k s hs hl p times hp0 (by omega) (by decide) (by decide)
  obtain ⟨n, hn, e2⟩ := one_spec k s hs hl (p + 1) numbers (by omega) (by omega) (by decide) (by decide)
  obtain ⟨r, hr, r0, r1⟩ := pick_spec k s hs hl (p + 1 + 1) 12 (by omega) (by omega) (by omega) (by omega)
  obtain ⟨t', ht', e3⟩ := one_spec k s hs hl (p + 1 + 1 + 1) [(-1), 1000001] (by omega) (by omega) (by decide) (by decide)
  obtain ⟨n', hn', e4⟩ := one_spec k s hs hl (p + 1 + 1 + 1) [(-1), 1000000001] (by omega) (by omega) (by decide) (by decide)
  have e0 : spec_l11Id.f (k + 1) s p = some (t, n, p + 1 + 1) := by
    unfold spec_l11Id.f
    unfold times at e1
    unfold numbers at e2
    rw [e1]
    simp only [Option.bind_some]
    rw [e2]
    rfl
  unfold spec_l11AnyId.f
  rw [e0]
  simp only [Option.bind_some]
  rw [hr]
  simp only [Option.bind_some]
  by_cases z0 : r = 0
  · rw [if_pos z0, e3]
    refine ⟨(t', n), p + 1 + 1 + 1 + 1, ?_, by omega, by omega, rfl⟩
    unfold ids
    exact List.mem_append_left _ (List.mem_append_right _ (List.mem_flatMap.2 ⟨t', ht', List.mem_map.2 ⟨n, hn, rfl⟩⟩))
  · rw [if_neg z0]
    by_cases z1 : r = 1
    · rw [if_pos z1, e4]
      refine ⟨(t, n'), p + 1 + 1 + 1 + 1, ?_, by omega, by omega, rfl⟩
      unfold ids
      exact List.mem_append_right _ (List.mem_flatMap.2 ⟨t, ht, List.mem_map.2 ⟨n', hn', rfl⟩⟩)
    · rw [if_neg z1]
      refine ⟨(t, n), p + 1 + 1 + 1, ?_, by omega, by omega, rfl⟩
      unfold ids
      exact List.mem_append_left _ (List.mem_append_left _ (List.mem_flatMap.2 ⟨t, ht, List.mem_map.2 ⟨n, hn, rfl⟩⟩))

theorem open_spec (l : List Int) (hl : Bytes l) : ∃ s, spec_l1Open.f l = some (s, 0) ∧ Bytes s ∧ s.length ≤ 2000 := by
  unfold spec_l1Open.f
  by_cases h : (l.length : Int) > 2000
  · rw [if_pos h, if_pos (by omega)]
    exact ⟨_, rfl, fun x hx => hl x (List.mem_of_mem_take hx), by rw [List.length_take]; omega⟩
  · rw [if_neg h]
    exact ⟨_, rfl, hl, by omega⟩

theorem drawIdLess_spec (k : Nat) (l : List Int) (hl : Bytes l) : ∃ a b, a ∈ ids ∧ b ∈ ids ∧ spec_DrawIdLess.f (k + 1) l = some (a.1, a.2, b.1, b.2) := by
  obtain ⟨s, e, hs, hn⟩ := open_spec l hl
  obtain ⟨a, p, ha, p0, p1, ea⟩ := anyId_spec k s hs hn 0 (by omega) (by omega)
  obtain ⟨b, q, hb, q0, q1, eb⟩ := anyId_spec k s hs hn p (by omega) (by omega)
  refine ⟨a, b, ha, hb, ?_⟩
  unfold spec_DrawIdLess.f
  rw [e]
  simp only [Option.bind_some]
  rw [ea]
  simp only [Option.bind_some]
  rw [eb]
  rfl
def drawn : List ByteArray := [(⟨#[53, 45, 50]⟩ : ByteArray), (⟨#[48, 45, 48]⟩ : ByteArray), (⟨#[53]⟩ : ByteArray), (⟨#[45, 53]⟩ : ByteArray), (⟨#[53, 45]⟩ : ByteArray), (⟨#[48, 53, 45, 49]⟩ : ByteArray), (⟨#[53, 45, 48, 49]⟩ : ByteArray), (⟨#[49, 48, 48, 48, 48, 48, 48, 45, 49]⟩ : ByteArray), (⟨#[49, 48, 48, 48, 48, 48, 49, 45, 49]⟩ : ByteArray), (⟨#[53, 45, 50, 45, 51]⟩ : ByteArray), (⟨#[97, 45, 49]⟩ : ByteArray)]
theorem drawIdGet_spec (k : Nat) (l : List Int) (hl : Bytes l) : ∃ t, t ∈ drawn ∧ spec_DrawIdGet.f (k + 1) l = some t := by
  obtain ⟨s, e, hs, hn⟩ := open_spec l hl
  obtain ⟨t, ht, et⟩ := of_spec k s hs hn 0 drawn (by omega) (by omega) (by decide) (by decide)
  refine ⟨t, ht, ?_⟩
  unfold spec_DrawIdGet.f
  rw [e]
  simp only [Option.bind_some]
  unfold drawn at et
  rw [et]
  rfl

/-- What the law asks of a text that is drawn. -/
def okText (t : ByteArray) : Bool := match impl_IdGet.f t, spec_IdGet.f 28 t with
  | some (x, y, f), some (u, v, g) => (x == u && y == v) && ((f == g) && (if f = true then (match impl_IdPut.f x y with | some z => z.toList == t.toList | none => false) else true))
  | _, _ => false
theorem okText_all : drawn.all okText = true := by kernel_rfl
/-- What the law asks of an id that is drawn. -/
def okId (a : Int × Int) : Bool := match impl_IdPut.f a.1 a.2, spec_IdPut.f 29 a.1 a.2 with
  | some s, some s' => (decide (s.toList = s'.toList)) && (match impl_IdGet.f s with
    | some (x, y, f) => if f = true then !(decide (s.toList = [])) && (x == a.1 && y == a.2) else decide (s.toList = [])
    | none => false)
  | _, _ => false
theorem okId_all : ids.all okId = true := by kernel_rfl

theorem cmp_eq (x y : Int) : cmp_Compare_int.f x y = some (if x < y then -1 else if x > y then 1 else 0) := by
  unfold cmp_Compare_int.f cmp_isNaN_int.f
  simp only [Option.bind_some, bne_self_eq_false, Bool.false_eq_true, if_false]
  split
  · rfl
  · split <;> rfl
theorem or_eq (k : Nat) (x y : Int) : cmp_Or_int.f (k + 3) [x, y] = some (if x = 0 then y else x) := by
  have w0 : wrap64 (0 + 1) = 1 := by rw [wrap64_id (by omega) (by omega)]; rfl
  have w1 : wrap64 (1 + 1) = 2 := by rw [wrap64_id (by omega) (by omega)]; rfl
  have r0 : rd [x, y] 0 = x := rfl
  have r1 : rd [x, y] 1 = y := rfl
  show cmp_Or_int.l0 (k + 3) 0 [x, y] 2 0 = _
  have s2 : cmp_Or_int.l0 (k + 1) 0 [x, y] 2 2 = some 0 := by
    simp only [cmp_Or_int.l0]
    rw [if_neg (by omega)]
  have s1 : cmp_Or_int.l0 (k + 2) 0 [x, y] 2 1 = some y := by
    simp only [cmp_Or_int.l0] at s2 ⊢
    rw [if_pos (by omega), if_pos (by omega), if_pos (by simp), r1, w1]
    by_cases h : y = 0
    · rw [if_pos h, s2, h]
    · rw [if_neg h]
  have s0 : cmp_Or_int.l0 (k + 3) 0 [x, y] 2 0 = if x = 0 then some y else some x := by
    rw [← s1]
    simp only [cmp_Or_int.l0]
    rw [if_pos (by omega), if_pos (by omega), if_pos (by simp), r0, w0]
  rw [s0]
  split <;> rfl
theorem less_eq (k : Nat) (a b c d : Int) : impl_IdLess.f (k + 3) a b c d = some (decide (a < c ∨ a = c ∧ b < d)) := by
  unfold impl_IdLess.f impl_idOrder.f
  rw [cmp_eq, cmp_eq]
  simp only [Option.bind_some]
  rw [or_eq]
  simp only [Option.bind_some]
  congr 1
  rw [Bool.eq_iff_iff]
  simp only [decide_eq_true_eq]
  by_cases h1 : a < c
  · rw [if_pos h1]
    simp [h1]
  · rw [if_neg h1]
    by_cases h2 : a > c
    · rw [if_pos h2]
      simp
      omega
    · rw [if_neg h2]
      simp
      by_cases h3 : b < d
      · rw [if_pos h3]; omega
      · rw [if_neg h3]
        split <;> omega
theorem less_spec_eq (a b c d : Int) : spec_IdLess.f a b c d = some (decide (a < c ∨ a = c ∧ b < d)) := by
  unfold spec_IdLess.f
  by_cases h1 : a < c
  · rw [if_pos h1]; simp [h1]
  · rw [if_neg h1]
    by_cases h2 : a = c
    · rw [if_pos h2]; simp [h2]
    · rw [if_neg h2]; simp [h1, h2]

theorem text_part (l : List Int) (hl : Bytes l) : laws_FnIdText.j1 29 l false = some true := by
  obtain ⟨t, ht, e⟩ := drawIdGet_spec 27 l hl
  have h := List.all_eq_true.1 okText_all t ht
  unfold okText at h
  simp only [laws_FnIdText.j1]
  rw [if_neg (by simp), e]
  simp only [Option.bind_some]
  cases e1 : impl_IdGet.f t with
  | none => rw [e1] at h; simp at h
  | some q =>
    obtain ⟨x, y, f⟩ := q
    cases e2 : spec_IdGet.f 28 t with
    | none => rw [e1, e2] at h; simp at h
    | some q =>
      obtain ⟨u, v, g⟩ := q
      rw [e1, e2] at h
      simp only [Bool.and_eq_true] at h
      obtain ⟨h1, h2, h3⟩ := h
      simp only [Option.bind_some]
      rw [if_pos (by simpa using h1), if_pos h2]
      cases f with
      | false => rfl
      | true =>
        rw [if_pos rfl] at h3 ⊢
        cases e3 : impl_IdPut.f x y with
        | none => rw [e3] at h3; simp at h3
        | some z =>
          rw [e3] at h3
          simp only [Option.bind_some]
          simp only at h3
          rw [h3]

theorem less_part (a b : Int × Int) (l : List Int) (T : laws_FnIdText.j1 29 l false = some true) :
    (if ((decide (a.1 < b.1 ∨ a.1 = b.1 ∧ a.2 < b.2)) != (decide (a.1 < b.1 ∨ a.1 = b.1 ∧ a.2 < b.2))) = true then laws_FnIdText.j1 29 l true
      else if (decide (a.1 < b.1 ∨ a.1 = b.1 ∧ a.2 < b.2)) = true then
        (if (decide (b.1 < a.1 ∨ b.1 = a.1 ∧ b.2 < a.2)) = true then laws_FnIdText.j1 29 l true else laws_FnIdText.j1 29 l false)
      else (if (decide (b.1 < a.1 ∨ b.1 = a.1 ∧ b.2 < a.2)) = true then laws_FnIdText.j1 29 l false
        else laws_FnIdText.j1 29 l (!(a.1 == b.1) || !(a.2 == b.2)))) = some true := by
  rw [if_neg (by simp)]
  by_cases h : a.1 < b.1 ∨ a.1 = b.1 ∧ a.2 < b.2
  · rw [if_pos (by simpa using h), if_neg (by simp; omega)]
    exact T
  · rw [if_neg (by simpa using h)]
    by_cases h2 : b.1 < a.1 ∨ b.1 = a.1 ∧ b.2 < a.2
    · rw [if_pos (by simpa using h2)]
      exact T
    · rw [if_neg (by simpa using h2)]
      have e1 : a.1 = b.1 := by omega
      have e2 : a.2 = b.2 := by omega
      rw [e1, e2]
      simpa using T

theorem FnIdText : laws_FnIdText.Pure := by
  intro l0 l1 h0 _ hb0 h1 _ hb1
  have by0 : Bytes l0 := fun x hx => by have := hb0 x hx; simp [Lit.wf, IntKind.min, IntKind.max, IntKind.signed, IntKind.bits] at this; omega
  have by1 : Bytes l1 := fun x hx => by have := hb1 x hx; simp [Lit.wf, IntKind.min, IntKind.max, IntKind.signed, IntKind.bits] at this; omega
  refine ⟨30, ?_⟩
  have J : laws_FnIdText.j0 30 l0 l1 true = some true := by
    simp only [laws_FnIdText.j0, if_true]
  have K : laws_FnIdText.j0 30 l0 l1 false = some true := by
    obtain ⟨a, b, ha, hb, e⟩ := drawIdLess_spec 28 l0 by0
    have h := List.all_eq_true.1 okId_all a ha
    have T := text_part l1 by1
    unfold okId at h
    simp only [laws_FnIdText.j0]
    rw [if_neg Bool.false_ne_true, e]
    simp only [Option.bind_some]
    cases e1 : impl_IdPut.f a.1 a.2 with
    | none => rw [e1] at h; simp at h
    | some s =>
      cases e2 : spec_IdPut.f 29 a.1 a.2 with
      | none => rw [e1, e2] at h; simp at h
      | some s' =>
        rw [e1, e2] at h
        simp only [Bool.and_eq_true] at h
        obtain ⟨h1, h2⟩ := h
        cases e3 : impl_IdGet.f s with
        | none => rw [e3] at h2; simp at h2
        | some q =>
          obtain ⟨x, y, f⟩ := q
          rw [e3] at h2
          simp only at h2
          simp only [Option.bind_some]
          rw [e3, less_eq 26 a.1 a.2 b.1 b.2, less_eq 26 b.1 b.2 a.1 a.2, less_spec_eq]
          simp only [Option.bind_some]
          rw [if_pos (of_decide_eq_true h1)]
          cases f with
          | true =>
            rw [if_pos rfl] at h2 ⊢
            simp only [Bool.and_eq_true, Bool.not_eq_true', decide_eq_false_iff_not, beq_iff_eq] at h2
            obtain ⟨hne, hx, hy⟩ := h2
            rw [if_neg hne]
            simp only [hx, hy, beq_self_eq_true, Bool.not_true, Bool.or_self, Bool.false_eq_true, if_false]
            exact less_part a b l1 T
          | false =>
            rw [if_neg (by simp)] at h2 ⊢
            rw [if_pos (by simpa using h2)]
            exact less_part a b l1 T
  unfold laws_FnIdText.f
  split
  · exact J
  · cases decide ((l1.length : Int) > 1048576)
    · exact K
    · exact J
end Go.Proofs.YtkgomifdmpkaeaaDoor.Pure
