/- Numerals, and what the two readings of them say. -/
import Derived.Test.YtkgomifdmpkaeaaDoorHand
namespace Go.Proofs.YtkgomifdmpkaeaaDoor
/-! ### Numerals -/
def isDig (c : UInt8) : Bool := decide (48 ≤ c.toNat) && decide (c.toNat ≤ 57)
@[irreducible] def dstep (acc : Nat) (c : UInt8) : Nat := acc * 10 + (c.toNat - 48)
theorem dstep_eq (acc : Nat) (c : UInt8) : dstep acc c = acc * 10 + (c.toNat - 48) := by unfold dstep; rfl
def decVal (acc : Nat) (l : List UInt8) : Nat := l.foldl dstep acc
theorem decVal_nil (acc : Nat) : decVal acc [] = acc := rfl
theorem decVal_cons (acc : Nat) (c : UInt8) (r : List UInt8) : decVal acc (c :: r) = decVal (dstep acc c) r := rfl
theorem decVal_snoc (l : List UInt8) (acc : Nat) (c : UInt8) : decVal acc (l ++ [c]) = decVal acc l * 10 + (c.toNat - 48) := by
  unfold decVal
  rw [List.foldl_append, List.foldl_cons, List.foldl_nil, dstep_eq]
theorem decVal_ge : ∀ (l : List UInt8) (acc : Nat), acc ≤ decVal acc l
  | [], _ => Nat.le_refl _
  | a :: l, acc => by
    rw [decVal_cons]
    have := decVal_ge l (dstep acc a)
    have e := dstep_eq acc a
    generalize decVal (dstep acc a) l = v at *
    omega
theorem parse_ok : ∀ (l : List UInt8) (acc : Nat), l.all isDig = true → decVal acc l < 9223372036854775808 → Lib.parseUint10 acc l = .ok (decVal acc l)
  | [], _, _, _ => rfl
  | c :: l, acc, h, hv => by
    simp only [List.all_cons, Bool.and_eq_true, isDig, decide_eq_true_eq] at h
    rw [decVal_cons] at hv ⊢
    have hge := decVal_ge l (dstep acc c)
    have e := dstep_eq acc c
    have hp := parse_ok l (dstep acc c) h.2 hv
    have hlt : dstep acc c < 9223372036854775808 := Nat.lt_of_le_of_lt hge hv
    rw [e] at hlt
    unfold Lib.parseUint10
    rw [if_pos h.1, if_neg (by omega), if_neg (by omega), ← e]
    exact hp
theorem decDigits_dig (u : Nat) : (Lib.decDigits u).all isDig = true := by
  induction u using Nat.strongRecOn with
  | _ u ih =>
    rw [Lib.decDigits]
    split
    · rename_i h
      have : (UInt8.ofNat (48 + u)).toNat = 48 + u := by
        rw [UInt8.toNat_ofNat']
        omega
      simp only [List.all_cons, List.all_nil, Bool.and_true, isDig, this, Bool.and_eq_true, decide_eq_true_eq]
      omega
    · rw [List.all_append, ih (u / 10) (by omega)]
      have : (UInt8.ofNat (48 + u % 10)).toNat = 48 + u % 10 := by
        rw [UInt8.toNat_ofNat']
        omega
      simp only [List.all_cons, List.all_nil, Bool.and_true, isDig, this, Bool.true_and, Bool.and_eq_true, decide_eq_true_eq]
      omega
theorem decDigits_val (u : Nat) : decVal 0 (Lib.decDigits u) = u := by
  induction u using Nat.strongRecOn with
  | _ u ih =>
    rw [Lib.decDigits]
    split
    · rename_i h
      have : (UInt8.ofNat (48 + u)).toNat = 48 + u := by
        rw [UInt8.toNat_ofNat']
        omega
      rw [decVal_cons, decVal_nil, dstep_eq, this]
      omega
    · rw [decVal_snoc, ih (u / 10) (by omega)]
      have : (UInt8.ofNat (48 + u % 10)).toNat = 48 + u % 10 := by
        rw [UInt8.toNat_ofNat']
        omega
      rw [this]
      omega
theorem decDigits_ne (u : Nat) : Lib.decDigits u ≠ [] := by
  rw [Lib.decDigits]
  split <;> simp
/-- Digits without a nought ahead. -/
def Canon (l : List UInt8) : Prop := l ≠ [] ∧ l.all isDig = true ∧ (1 < l.length → l.head? ≠ some 48)
theorem decDigits_canon (u : Nat) : Canon (Lib.decDigits u) := by
  refine ⟨decDigits_ne u, decDigits_dig u, ?_⟩
  induction u using Nat.strongRecOn with
  | _ u ih =>
    rw [Lib.decDigits]
    split
    · intro h; simp at h
    · rename_i h
      intro _
      by_cases h2 : u / 10 < 10
      · rw [Lib.decDigits, dif_pos h2]
        simp only [List.cons_append, List.head?_cons, ne_eq, Option.some.injEq]
        intro e
        have := congrArg UInt8.toNat e
        rw [UInt8.toNat_ofNat'] at this
        have e2 : (48 : UInt8).toNat = 48 := rfl
        rw [e2] at this
        omega
      · have := ih (u / 10) (by omega) (by
          rw [Lib.decDigits, dif_neg h2, List.length_append]
          have := List.length_pos_iff.2 (decDigits_ne (u / 10 / 10))
          simp; omega)
        rw [List.head?_append]
        cases e : (Lib.decDigits (u / 10)).head? with
        | none => exact absurd (List.head?_eq_none_iff.1 e) (decDigits_ne _)
        | some x => rw [e] at this; simpa using this
theorem canon_eq : ∀ (n : Nat) (l : List UInt8), l.length = n → Canon l → Lib.decDigits (decVal 0 l) = l := by
  intro n
  induction n with
  | zero => intro l h hc; exact absurd (List.eq_nil_of_length_eq_zero h) hc.1
  | succ n ih =>
    intro l h hc
    obtain ⟨r, c, rfl⟩ : ∃ r c, l = r ++ [c] := ⟨l.dropLast, l.getLast hc.1, (List.dropLast_concat_getLast hc.1).symm⟩
    obtain ⟨_, hd, hh⟩ := hc
    rw [List.all_append, Bool.and_eq_true] at hd
    have hcd : 48 ≤ c.toNat ∧ c.toNat ≤ 57 := by simpa [isDig] using hd.2
    have hc8 : UInt8.ofNat (48 + (c.toNat - 48)) = c := by
      rw [show 48 + (c.toNat - 48) = c.toNat by omega]
      exact UInt8.ofNat_toNat
    rw [decVal_snoc]
    by_cases hr : r = []
    · subst hr
      rw [decVal_nil, Nat.zero_mul, Nat.zero_add, Lib.decDigits, dif_pos (by omega), hc8]
      rfl
    · have hlen : r.length = n := by simp at h; exact h
      have hr0 : r.head? ≠ some 48 := by
        have := hh (by rw [List.length_append]; have := List.length_pos_iff.2 hr; simp; omega)
        rw [List.head?_append] at this
        cases e : r.head? with
        | none => simp
        | some x => rw [e] at this; simpa using this
      have e := ih r hlen ⟨hr, hd.1, fun _ => hr0⟩
      have hv : 1 ≤ decVal 0 r := by
        rcases Nat.eq_zero_or_pos (decVal 0 r) with h0 | h0
        · rw [h0] at e
          rw [← e] at hr0
          exact absurd (by rw [Lib.decDigits, dif_pos (by omega)]; rfl) hr0
        · exact h0
      generalize decVal 0 r = v at *
      rw [Lib.decDigits, dif_neg (by omega), show (v * 10 + (c.toNat - 48)) / 10 = v by omega, show (v * 10 + (c.toNat - 48)) % 10 = c.toNat - 48 by omega, e, hc8]
theorem head_dig {l : List UInt8} (h : Canon l) : ∃ c r, l = c :: r ∧ 48 ≤ c.toNat ∧ c.toNat ≤ 57 := by
  cases l with
  | nil => exact absurd rfl h.1
  | cons c r =>
    have := h.2.1
    simp only [List.all_cons, Bool.and_eq_true, isDig, decide_eq_true_eq] at this
    exact ⟨c, r, rfl, this.1.1, this.1.2⟩
theorem atoiAll_pos (l : List UInt8) (h : Canon l) (hv : decVal 0 l < 9223372036854775808) : Lib.atoiAll l = .ok (decVal 0 l : Int) := by
  obtain ⟨c, r, rfl, h1, h2⟩ := head_dig h
  unfold Lib.atoiAll
  simp only
  rw [if_neg (by omega)]
  unfold Lib.parseMag
  rw [if_neg (by simp), parse_ok _ 0 h.2.1 hv]
  simp only
  rw [if_neg (by omega), if_neg (by omega), if_neg (by omega)]
theorem atoiAll_neg (l : List UInt8) (h : Canon l) (hv : decVal 0 l < 9223372036854775808) : Lib.atoiAll (45 :: l) = .ok (-(decVal 0 l : Int)) := by
  have hp : Lib.parseMag l = .ok (decVal 0 l) := by
    unfold Lib.parseMag
    rw [if_neg h.1, parse_ok _ 0 h.2.1 hv]
  generalize decVal 0 l = v at *
  have h1 : ¬ (9223372036854775808 < v) := by omega
  simp [Lib.atoiAll, hp, h1]
/-! ### What strconv says of a numeral -/
theorem canon_of_dec (u : Nat) : Canon (Lib.decDigits u) := decDigits_canon u
theorem numB_itoa {x : ByteArray} {v : Int} (hs : x.size ≤ 281474976710656) (h0 : -1000000000 ≤ v) (h1 : v ≤ 1000000000) (h : x.toList = Lib.itoa v) : impl_IntGet.f x = some (v, true) := by
  have hA : Lib.atoiAll x.data.toList = .ok v := by
    rw [← Lib.toList_data, h]
    unfold Lib.itoa
    split
    · rename_i hn
      rw [atoiAll_neg _ (decDigits_canon _) (by rw [decDigits_val]; omega), decDigits_val]
      congr 1
      omega
    · rw [atoiAll_pos _ (decDigits_canon _) (by rw [decDigits_val]; omega), decDigits_val]
      congr 1
      omega
  have e1 : atoiV x = v := by unfold atoiV; rw [hA]
  have e2 : atoiB x = true := by unfold atoiB; rw [hA]
  unfold impl_IntGet.f
  rw [if_pos hs, if_pos e2, e1, if_pos (by simp [inB]; omega), if_pos h.symm]
theorem intGet_cases {x : ByteArray} (hs : x.size ≤ 281474976710656) : (∃ v, -1000000000 ≤ v ∧ v ≤ 1000000000 ∧ x.toList = Lib.itoa v ∧ impl_IntGet.f x = some (v, true)) ∨ ((∀ v, -1000000000 ≤ v → v ≤ 1000000000 → x.toList ≠ Lib.itoa v) ∧ impl_IntGet.f x = some (0, false)) := by
  by_cases h : ∃ v, -1000000000 ≤ v ∧ v ≤ 1000000000 ∧ x.toList = Lib.itoa v
  · obtain ⟨v, h0, h1, h2⟩ := h
    exact .inl ⟨v, h0, h1, h2, numB_itoa hs h0 h1 h2⟩
  · refine .inr ⟨fun v h0 h1 h2 => h ⟨v, h0, h1, h2⟩, ?_⟩
    unfold impl_IntGet.f
    rw [if_pos hs]
    split
    · split
      · rename_i hin
        split
        · rename_i hi
          simp [inB] at hin
          exact absurd ⟨_, hin.1, hin.2, hi.symm⟩ h
        · rfl
      · rfl
    · rfl
theorem decVal_lt : ∀ (n : Nat) (l : List UInt8), l.length = n → l.all isDig = true → decVal 0 l < 10 ^ n := by
  intro n
  induction n with
  | zero => intro l h _; rw [List.eq_nil_of_length_eq_zero h]; decide
  | succ n ih =>
    intro l h hd
    have hne : l ≠ [] := by intro e; rw [e] at h; simp at h
    obtain ⟨r, c, rfl⟩ : ∃ r c, l = r ++ [c] := ⟨l.dropLast, l.getLast hne, (List.dropLast_concat_getLast hne).symm⟩
    rw [List.all_append, Bool.and_eq_true] at hd
    have hcd : 48 ≤ c.toNat ∧ c.toNat ≤ 57 := by simpa [isDig] using hd.2
    have := ih r (by simp at h; exact h) hd.1
    rw [decVal_snoc, Nat.pow_succ]
    generalize decVal 0 r = v at *
    omega
theorem take_snoc (l : List UInt8) (i : Nat) (hi : i < l.length) : l.take (i + 1) = l.take i ++ [l[i]] := List.take_succ_eq_append_getElem hi
/-! ### There is one list in order -/
theorem sortL_perm (nu dn : Bool) (l : List ByteArray) : (sortL nu dn l).Perm l := List.mergeSort_perm _ _
theorem sortL_sorted (nu dn : Bool) (l : List ByteArray) : (sortL nu dn l).Pairwise (fun x y => ltS nu dn y x = false) := by
  have hS := swo_ltS nu dn
  have := List.pairwise_mergeSort (le := fun x y => !ltS nu dn y x) (fun a b c h1 h2 => by
    simp only [Bool.not_eq_true'] at h1 h2 ⊢
    exact hS.ntrans c b a h2 h1) (fun a b => by
    cases h : ltS nu dn b a with
    | false => simp
    | true =>
      cases h2 : ltS nu dn a b with
      | false => simp
      | true => have := hS.trans _ _ _ h h2; rw [hS.irrefl] at this; cases this) l
  refine List.Pairwise.imp ?_ this
  intro a b h
  simpa using h
theorem sort_uniq {nu dn : Bool} {s l : List ByteArray} (hp : s.Perm l) (hs : s.Pairwise (fun x y => ltS nu dn y x = false)) (hn : ∀ x ∈ l, nu = true → NumT x) : s = sortL nu dn l := by
  refine List.Perm.eq_of_pairwise (le := fun x y => ltS nu dn y x = false) ?_ hs (sortL_sorted nu dn l) (hp.trans (sortL_perm nu dn l).symm)
  intro a b ha hb h1 h2
  exact ltS_anti (hn a (hp.mem_iff.1 ha)) (hn b ((sortL_perm nu dn l).mem_iff.1 hb)) h2 h1
/-- One text more, ahead of the first that it comes before. -/
def insS (nu : Bool) (e : ByteArray) (l : List ByteArray) : List ByteArray := l.takeWhile (fun y => !ltS nu false e y) ++ (e :: l.dropWhile (fun y => !ltS nu false e y))
theorem insS_perm (nu : Bool) (e : ByteArray) (l : List ByteArray) : (insS nu e l).Perm (e :: l) := by
  unfold insS
  refine List.perm_middle.trans ?_
  rw [List.takeWhile_append_dropWhile]
theorem insS_sorted (nu : Bool) (e : ByteArray) (l : List ByteArray) (h : l.Pairwise (fun x y => ltS nu false y x = false)) : (insS nu e l).Pairwise (fun x y => ltS nu false y x = false) := by
  have hS := swo_ltS nu false
  unfold insS
  have h1 : ∀ y ∈ l.takeWhile (fun y => !ltS nu false e y), ltS nu false e y = false := by
    intro y hy
    have := List.all_eq_true.1 (List.all_takeWhile (p := fun y => !ltS nu false e y) (l := l)) y hy
    simpa using this
  have h0 : l = l.takeWhile (fun y => !ltS nu false e y) ++ l.dropWhile (fun y => !ltS nu false e y) := (List.takeWhile_append_dropWhile).symm
  rw [h0, List.pairwise_append] at h
  obtain ⟨ha, hb, hc⟩ := h
  have h2 : ∀ y ∈ l.dropWhile (fun y => !ltS nu false e y), ltS nu false y e = false := by
    intro y hy
    cases hd : l.dropWhile (fun y => !ltS nu false e y) with
    | nil => rw [hd] at hy; simp at hy
    | cons z r =>
      have hz : ltS nu false e z = true := by
        have := List.head_dropWhile_not (fun y => !ltS nu false e y) (l := l) (by rw [hd]; simp)
        simp only [hd, List.head_cons] at this
        simpa using this
      rw [hd] at hy hb
      cases hye : ltS nu false y e with
      | false => rfl
      | true =>
        have hyz := hS.trans _ _ _ hye hz
        rcases List.mem_cons.1 hy with rfl | hy
        · rw [hS.irrefl] at hyz; cases hyz
        · have := (List.pairwise_cons.1 hb).1 y hy
          rw [this] at hyz
          cases hyz
  rw [List.pairwise_append]
  refine ⟨ha, List.pairwise_cons.2 ⟨h2, hb⟩, fun x hx y hy => ?_⟩
  rcases List.mem_cons.1 hy with rfl | hy
  · exact h1 x hx
  · exact hc x hx y hy
theorem reverse_sortL (nu : Bool) (l : List ByteArray) (hn : ∀ x ∈ l, nu = true → NumT x) : (sortL nu false l).reverse = sortL nu true l := by
  refine sort_uniq ((List.reverse_perm _).trans (sortL_perm nu false l)) ?_ hn
  rw [List.pairwise_reverse]
  refine List.Pairwise.imp ?_ (sortL_sorted nu false l)
  intro a b h
  rw [ltS_down]
  exact h

end Go.Proofs.YtkgomifdmpkaeaaDoor
