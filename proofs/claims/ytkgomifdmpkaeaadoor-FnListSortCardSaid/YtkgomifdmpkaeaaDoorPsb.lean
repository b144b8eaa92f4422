/- The plain law: what the printed functions of Lsb compute. -/
import Derived.Test.YtkgomifdmpkaeaaDoorNum
import Derived.Test.YtkgomifdmpkaeaaDoorLsb2
namespace Go.Proofs.YtkgomifdmpkaeaaDoor.PLsb
open Go.RowKit Go.Proofs.YtkgomifdmpkaeaaDoor Go.Proofs.YtkgomifdmpkaeaaDoor.Lsb Go.Proofs.YtkgomifdmpkaeaaDoorW.PrintWords Go.Proofs.YtkgomifdmpkaeaaDoorW.PrintLast
theorem bt_list (x : ByteArray) (i : Nat) (hi : i < x.toList.length) (hs : x.toList.length = x.size) : bt x (i : Int) = ((x.toList[i]).toNat : Int) := by
  have h : i < x.size := by omega
  unfold bt
  rw [dif_pos (by simpa using h)]
  simp only [Int.toNat_natCast, Lib.toList_data]
  rfl
theorem toList_len (x : ByteArray) : x.toList.length = x.size := by rw [Lib.toList_data, Array.length_toList]; rfl
def figR (l : List UInt8) : Int := if (l.all isDig && decide (1 ≤ l.length) && decide (l.length ≤ 10) && !(decide (1 < l.length) && l.head? == some 48)) = true then (decVal 0 l : Int) else -1
theorem fig_loop (x : ByteArray) (hs : x.size ≤ 40) : ∀ (n i : Nat), i + n = x.size → (x.toList.take i).all isDig = true → ∀ k, 2 * n < k → ∀ acc : Int, (acc = (decVal 0 (x.toList.take (min i 10)) : Int)) → spec_l1Figures.l0 k x acc (i : Int) = some (figR x.toList)
  | 0, i, h, hd, k + 1, hk, acc, ha => by
    have hl := toList_len x
    unfold spec_l1Figures.l0
    rw [if_neg (by omega)]
    unfold spec_l1In.f
    rw [List.take_of_length_le (by omega)] at hd
    by_cases h1 : (x.size : Int) ≥ 1
    · rw [if_pos h1]
      simp only [Option.bind_some]
      by_cases h2 : (x.size : Int) ≤ 10
      · rw [if_pos (decide_eq_true h2)]
        have e : acc = (decVal 0 x.toList : Int) := by rw [ha, List.take_of_length_le (by omega)]
        by_cases h3 : (x.size : Int) > 1
        · rw [if_pos h3, if_pos (by omega)]
          have hb := bt_list x 0 (by omega) hl
          rw [Int.natCast_zero] at hb
          obtain ⟨c, r, hcr⟩ : ∃ c r, x.toList = c :: r := by
            cases hx : x.toList with
            | nil => rw [hx] at hl; simp at hl; omega
            | cons c r => exact ⟨c, r, rfl⟩
          have hc0 : x.toList[0]'(by omega) = c := by simp [hcr]
          rw [hb, hc0]
          have hh : x.toList.head? = some c := by rw [hcr]; rfl
          by_cases h4 : ((c.toNat : Int) = 48)
          · rw [if_pos h4]
            have : c = 48 := UInt8.toNat_inj.1 (by show c.toNat = 48; omega)
            unfold figR
            rw [if_neg (by rw [hh, this]; simp; omega)]
          · rw [if_neg h4]
            have : c ≠ 48 := fun e => h4 (by rw [e]; rfl)
            unfold figR
            rw [if_pos (by rw [hd, hh]; simp [this]; omega), e]
        · rw [if_neg h3]
          unfold figR
          rw [if_pos (by rw [hd]; simp; omega), e]
      · rw [if_neg (by simpa using h2)]
        unfold figR
        rw [if_neg (by simp; omega)]
    · rw [if_neg h1]
      simp only [Option.bind_some]
      rw [if_neg (by decide)]
      unfold figR
      rw [if_neg (by simp; omega)]
  | n + 1, i, h, hd, k + 2, hk, acc, ha => by
    have hl := toList_len x
    have hi : i < x.toList.length := by omega
    have hb := bt_list x i hi hl
    have bad : isDig (x.toList[i]) = false → figR x.toList = -1 := by
      intro e
      unfold figR
      have : x.toList.all isDig = false := by
        rw [List.all_eq_false]
        exact ⟨_, List.getElem_mem hi, by rw [e]; decide⟩
      rw [this]
      rfl
    have hr : (x.toList[i]).toNat < 256 := (x.toList[i]).toNat_lt
    unfold spec_l1Figures.l0
    rw [if_pos (by omega), if_pos (by omega), hb]
    by_cases h1 : ((x.toList[i]).toNat : Int) < 48
    · rw [if_pos h1]
      unfold spec_l1Figures.j1
      rw [if_pos rfl, bad (by simp [isDig]; omega)]
    · rw [if_neg h1]
      unfold spec_l1Figures.j1
      by_cases h2 : ((x.toList[i]).toNat : Int) > 57
      · rw [if_pos (decide_eq_true h2), bad (by simp [isDig]; omega)]
      · rw [if_neg (by simpa using h2)]
        have hdig : isDig (x.toList[i]) = true := by simp [isDig]; omega
        have hd' : (x.toList.take (i + 1)).all isDig = true := by rw [take_snoc _ _ hi, List.all_append, hd]; simp [hdig]
        have hw : wrap64 ((i : Int) + 1) = ((i + 1 : Nat) : Int) := by unfold wrap64; omega
        rw [hw]
        by_cases h3 : (i : Int) < 10
        · rw [if_pos h3, if_pos (by omega), if_pos (by omega)]
          refine fig_loop x hs n (i + 1) (by omega) hd' k (by omega) _ ?_
          rw [show min (i + 1) 10 = i + 1 by omega, take_snoc _ _ hi, decVal_snoc, hb]
          have hm : min i 10 = i := by omega
          rw [hm] at ha
          have hlt := decVal_lt i (x.toList.take i) (by rw [List.length_take]; omega) hd
          have hp : 10 ^ i ≤ 10 ^ 10 := Nat.pow_le_pow_right (by decide) (by omega)
          have hlt2 : decVal 0 (x.toList.take i) < 10000000000 := Nat.lt_of_lt_of_le hlt hp
          rw [ha]
          generalize decVal 0 (x.toList.take i) = v at *
          generalize (x.toList[i]).toNat = c at *
          have e1 : wrap64 ((v : Int) * 10) = (v : Int) * 10 := by unfold wrap64; omega
          rw [e1]
          unfold wrap64
          omega
        · rw [if_neg h3]
          refine fig_loop x hs n (i + 1) (by omega) hd' k (by omega) _ ?_
          rw [ha, show min i 10 = 10 by omega, show min (i + 1) 10 = 10 by omega]
theorem fig_f (x : ByteArray) (hs : x.size ≤ 40) (k : Nat) (hk : 2 * x.size < k) : spec_l1Figures.f k x = some (figR x.toList) := by
  unfold spec_l1Figures.f
  exact fig_loop x hs x.size 0 (by omega) rfl k hk 0 (by rw [Nat.zero_min, List.take_zero, decVal_nil]; rfl)
theorem figR_canon (l : List UInt8) (h : Canon l) (h10 : l.length ≤ 10) : figR l = (decVal 0 l : Int) := by
  obtain ⟨h1, h2, h3⟩ := h
  have := List.length_pos_iff.2 h1
  unfold figR
  rw [if_pos]
  rw [h2]
  by_cases h4 : 1 < l.length
  · have h5 := h3 h4
    cases e : l.head? with
    | none => simp; omega
    | some c =>
      rw [e] at h5
      simp at h5
      simp [h5]
      omega
  · simp
    omega
theorem figR_get (l : List UInt8) (h : 0 ≤ figR l) : Canon l ∧ l.length ≤ 10 ∧ figR l = (decVal 0 l : Int) := by
  unfold figR at h ⊢
  split at h
  · rename_i hc
    rw [if_pos hc]
    simp only [Bool.and_eq_true, decide_eq_true_eq, Bool.not_eq_true', Bool.and_eq_false_iff, decide_eq_false_iff_not, beq_eq_false_iff_ne] at hc
    refine ⟨⟨fun e => by rw [e] at hc; simp at hc, hc.1.1.1, fun h1 => ?_⟩, hc.1.2, rfl⟩
    rcases hc.2 with h2 | h2
    · omega
    · exact h2
  · omega
theorem in_f (n a b : Int) : spec_l1In.f n a b = some (decide (a ≤ n) && decide (n ≤ b)) := by
  unfold spec_l1In.f
  by_cases h : n ≥ a
  · rw [if_pos h]; simp; omega
  · rw [if_neg h]; simp; omega
theorem dec_len (u : Nat) (h : u ≤ 1000000000) : (Lib.decDigits u).length ≤ 10 := by
  have hc := decDigits_canon u
  rcases Nat.lt_or_ge 10 (Lib.decDigits u).length with h1 | h1
  · exfalso
    -- a numeral of eleven digits is ten thousand millions at least
    obtain ⟨c, r, e, h2, h3⟩ := head_dig hc
    have h4 : c ≠ 48 := by
      have := hc.2.2 (by omega)
      rw [e] at this
      simpa using this
    have h5 : 49 ≤ c.toNat := by
      have : c.toNat ≠ 48 := fun e2 => h4 (UInt8.toNat_inj.1 (by rw [e2]; rfl))
      omega
    have h6 : ∀ (l : List UInt8) (acc : Nat), acc * 10 ^ l.length ≤ decVal acc l := by
      intro l
      induction l with
      | nil => intro acc; rw [decVal_nil]; simp
      | cons a l ih =>
        intro acc
        rw [decVal_cons, List.length_cons, Nat.pow_succ]
        have := ih (dstep acc a)
        have e2 := dstep_eq acc a
        have : acc * 10 * 10 ^ l.length ≤ dstep acc a * 10 ^ l.length := Nat.mul_le_mul_right _ (by omega)
        calc acc * (10 ^ l.length * 10) = acc * 10 * 10 ^ l.length := by rw [Nat.mul_comm (10 ^ l.length) 10, Nat.mul_assoc]
          _ ≤ _ := Nat.le_trans this (ih _)
    have h7 := decDigits_val u
    rw [e, decVal_cons] at h7
    have h8 := h6 r (dstep 0 c)
    rw [h7] at h8
    have h9 := dstep_eq 0 c
    have h10 : 10 ≤ r.length := by rw [e] at h1; simp at h1; omega
    have h11 : 10 ^ 10 ≤ 10 ^ r.length := Nat.pow_le_pow_right (by decide) h10
    have h12 : 1 * 10 ^ 10 ≤ dstep 0 c * 10 ^ r.length := Nat.mul_le_mul (by omega) h11
    have h13 : (10 : Nat) ^ 10 = 10000000000 := by decide
    omega
  · exact h1
theorem itoa_head (u : Nat) : (Lib.decDigits u).head? ≠ some 45 := by
  obtain ⟨c, r, e, h1, h2⟩ := head_dig (decDigits_canon u)
  rw [e]
  intro h
  simp at h
  rw [h] at h1
  exact absurd h1 (by decide)
theorem specInt_pos (x : ByteArray) (hs : x.size ≤ 40) (hh : ¬ (1 < x.size ∧ x.toList.head? = some 45)) (k : Nat) (hk : 100 < k) :
    spec_IntGet.j0 k x false = impl_IntGet.f x := by
  obtain ⟨k, rfl⟩ : ∃ q, k = q + 1 := ⟨k - 1, by omega⟩
  have hl := toList_len x
  simp only [spec_IntGet.j0]
  rw [if_neg (by decide), fig_f x hs k (by omega)]
  simp only [Option.bind_some, in_f]
  rcases intGet_cases (x := x) (by omega) with ⟨v, v0, v1, hv, e⟩ | ⟨hn, e⟩
  · rw [e]
    by_cases hneg : v < 0
    · exfalso
      unfold Lib.itoa at hv
      rw [if_pos hneg] at hv
      have := List.length_pos_iff.2 (decDigits_ne v.natAbs)
      have h3 : x.toList.length = (Lib.decDigits v.natAbs).length + 1 := by rw [hv]; rfl
      exact hh ⟨by omega, by rw [hv]; rfl⟩
    · unfold Lib.itoa at hv
      rw [if_neg hneg] at hv
      have h1 : figR x.toList = v := by
        rw [hv, figR_canon _ (decDigits_canon _) (dec_len _ (by omega)), decDigits_val]
        omega
      rw [h1, if_pos (by simp; omega)]
  · rw [e, if_neg]
    intro h
    simp only [Bool.and_eq_true, decide_eq_true_eq] at h
    obtain ⟨c1, c2, c3⟩ := figR_get _ h.1
    refine hn (figR x.toList) (by omega) h.2 ?_
    unfold Lib.itoa
    rw [if_neg (by omega), c3, Int.toNat_natCast, canon_eq _ _ rfl c1]
theorem specInt_neg (x : ByteArray) (hs : x.size ≤ 40) (hh : 1 < x.size ∧ x.toList.head? = some 45) (k : Nat) (hk : 100 < k) :
    spec_IntGet.j0 k x true = impl_IntGet.f x := by
  obtain ⟨k, rfl⟩ : ∃ q, k = q + 1 := ⟨k - 1, by omega⟩
  have hl := toList_len x
  obtain ⟨r, hr⟩ : ∃ r, x.toList = 45 :: r := by
    cases e : x.toList with
    | nil => rw [e] at hh; simp at hh
    | cons c r => rw [e] at hh; simp at hh; exact ⟨r, by rw [hh.2]⟩
  have hy : (x.extract 1 x.size).toList = r := by
    rw [Lib.toList_data] at hr ⊢
    rw [ByteArray.data_extract, Array.toList_extract, hr]
    have : x.size = r.length + 1 := by
      have h2 : x.toList.length = r.length + 1 := by rw [Lib.toList_data, hr]; rfl
      omega
    simp [List.extract, this]
  have hys : (x.extract 1 x.size).size ≤ 40 := by
    have := toList_len (x.extract 1 x.size)
    rw [hy] at this
    have h2 : x.toList.length = r.length + 1 := by rw [hr]; rfl
    omega
  simp only [spec_IntGet.j0]
  rw [if_pos trivial, if_pos (by omega), fig_f _ hys k (by omega), hy]
  simp only [Option.bind_some, in_f]
  rcases intGet_cases (x := x) (by omega) with ⟨v, v0, v1, hv, e⟩ | ⟨hn, e⟩
  · rw [e]
    unfold Lib.itoa at hv
    by_cases hneg : v < 0
    · rw [if_pos hneg, hr] at hv
      have h1 : r = Lib.decDigits v.natAbs := by injection hv
      have h2 : figR r = -v := by
        rw [h1, figR_canon _ (decDigits_canon _) (dec_len _ (by omega)), decDigits_val]
        omega
      rw [h2, if_pos (by simp; omega)]
      have : wrap64 (- -v) = v := by unfold wrap64; omega
      rw [this]
    · rw [if_neg hneg] at hv
      exact absurd (by rw [← hv]; exact hh.2) (itoa_head v.toNat)
  · rw [e, if_neg]
    intro h
    simp only [Bool.and_eq_true, decide_eq_true_eq] at h
    obtain ⟨c1, c2, c3⟩ := figR_get _ (by omega : 0 ≤ figR r)
    refine hn (-(figR r)) (by omega) (by omega) ?_
    unfold Lib.itoa
    rw [if_pos (by omega), hr, c3]
    have : (-(decVal 0 r : Int)).natAbs = decVal 0 r := by omega
    rw [this, canon_eq _ _ rfl c1]
theorem specInt (x : ByteArray) (hs : x.size ≤ 40) (k : Nat) (hk : 101 < k) : spec_IntGet.f k x = impl_IntGet.f x := by
  have hl := toList_len x
  unfold spec_IntGet.f
  by_cases h1 : (x.size : Int) > 1
  · rw [if_pos h1, if_pos (by omega)]
    have hb := bt_list x 0 (by omega) hl
    rw [Int.natCast_zero] at hb
    obtain ⟨c, r, hcr⟩ : ∃ c r, x.toList = c :: r := by
      cases hx : x.toList with
      | nil => rw [hx] at hl; simp at hl; omega
      | cons c r => exact ⟨c, r, rfl⟩
    have hc0 : x.toList[0]'(by omega) = c := by simp [hcr]
    rw [hb, hc0]
    by_cases h2 : c = 45
    · rw [show (((c.toNat : Int) == 45)) = true by rw [h2]; rfl]
      exact specInt_neg x hs ⟨by omega, by rw [hcr, h2]; rfl⟩ k (by omega)
    · rw [show (((c.toNat : Int) == 45)) = false by
        rw [beq_eq_false_iff_ne]
        intro e
        exact h2 (UInt8.toNat_inj.1 (by show c.toNat = 45; omega))]
      exact specInt_pos x hs (fun h => h2 (by rw [hcr] at h; simpa using h.2)) k (by omega)
  · rw [if_neg h1]
    exact specInt_pos x hs (fun h => by omega) k (by omega)
theorem less_f (nu : Bool) (e y : ByteArray) (he : e.size ≤ 40) (hy : y.size ≤ 40) (ne : nu = true → NumT e) (ny : nu = true → NumT y) (k : Nat) (hk : 101 < k) : spec_l8Less.f k e y nu = some (ltS nu false e y) := by
  unfold spec_l8Less.f
  cases nu with
  | false => rw [if_neg (by decide), ltS_s]
  | true =>
    have h1 : impl_IntGet.f e = some (atoiV e, true) := ne rfl
    have h2 : impl_IntGet.f y = some (atoiV y, true) := ny rfl
    rw [if_pos rfl, specInt e he k hk, specInt y hy k hk, h1, h2, ltS_n]
    simp only [Option.bind_some]
    by_cases h : atoiV e = atoiV y
    · rw [if_pos h]
      have := numT_inj (ne rfl) (ny rfl) h
      subst this
      rw [sLess_irrefl]
      simp
    · rw [if_neg h]
theorem texts_loop (l : List ByteArray) (hl : l.length ≤ 1099511627776) : ∀ (n i : Nat), i + n = l.length → ∀ k, n < k → spec_l2Texts.l0 k l (i : Int) = some ((l.drop i).all (fun x => decide (x.size ≤ 40)) && decide (l.length ≤ 16))
  | 0, i, h, k + 1, _ => by
    unfold spec_l2Texts.l0
    rw [if_neg (by omega), List.drop_eq_nil_of_le (by omega)]
    simp
    omega
  | n + 1, i, h, k + 1, hk => by
    have hi : i < l.length := by omega
    unfold spec_l2Texts.l0
    rw [if_pos (by omega), if_pos (by omega), wrap64_in (by omega) (by omega), List.drop_eq_getElem_cons hi, rdOf_at l i hi]
    by_cases hs : l[i].size ≤ 40
    · rw [if_neg (by omega)]
      have := texts_loop l hl n (i + 1) (by omega) k (by omega)
      rw [show ((i : Int) + 1) = ((i + 1 : Nat) : Int) by omega, this]
      simp only [List.all_cons, decide_eq_true hs, Bool.true_and]
    · rw [if_pos (by omega)]
      simp only [List.all_cons, decide_eq_false hs, Bool.false_and]
theorem texts_f (l : List ByteArray) (hl : l.length ≤ 1099511627776) (k : Nat) (hk : l.length < k) : spec_l2Texts.f k l = some (okL l) := by
  unfold spec_l2Texts.f okL
  have := texts_loop l hl l.length 0 (by omega) k hk
  rw [List.drop_zero] at this
  exact this
theorem turn_loop (l : List ByteArray) (hl : l.length ≤ 1000) : ∀ (n : Nat) (acc : List ByteArray), n ≤ l.length → acc.length + n ≤ 2000 → ∀ k, n < k → spec_l2Turn.l0 k l acc ((n : Int) - 1) = some (acc ++ (l.take n).reverse)
  | 0, acc, h, ha, k + 1, _ => by
    unfold spec_l2Turn.l0
    rw [if_neg (by omega)]
    simp
  | n + 1, acc, h, ha, k + 1, hk => by
    have hi : n < l.length := by omega
    unfold spec_l2Turn.l0
    rw [show (((n + 1 : Nat) : Int) - 1) = (n : Int) by omega, if_pos (by omega), if_pos (by omega), if_pos (by omega), if_pos (by omega), rdOf_at l n hi, wrap64_in (by omega) (by omega)]
    rw [turn_loop l hl n (acc ++ [l[n]]) (by omega) (by simp; omega) k (by omega), List.take_succ_eq_append_getElem hi]
    simp only [List.reverse_append, List.reverse_cons, List.reverse_nil, List.nil_append, List.append_assoc, List.cons_append]
theorem turn_f (l : List ByteArray) (hl : l.length ≤ 1000) (k : Nat) (hk : l.length < k) : spec_l2Turn.f k l = some l.reverse := by
  unfold spec_l2Turn.f
  rw [wrap64_in (by omega) (by omega)]
  have := turn_loop l hl l.length [] (Nat.le_refl _) (by simp; omega) k hk
  rw [List.take_length] at this
  simpa using this
theorem while_at (p : ByteArray → Bool) : ∀ (l : List ByteArray) (j : Nat), (l.take j).all p = true → (∀ h : j < l.length, p l[j] = false) → l.takeWhile p = l.take j ∧ l.dropWhile p = l.drop j
  | [], j, _, _ => by simp
  | a :: l, 0, _, h => by
    have := h (by simp)
    simp at this
    simp [this]
  | a :: l, j + 1, ha, h => by
    simp only [List.take_succ_cons, List.all_cons, Bool.and_eq_true] at ha
    obtain ⟨h1, h2⟩ := while_at p l j ha.2 (fun hj => by have := h (by simp; omega); simpa using this)
    simp [ha.1, h1, h2]
theorem ins_loop (l : List ByteArray) (nu dn : Bool) (hl : l.length ≤ 16) (hsz : ∀ x ∈ l, x.size ≤ 40) (i : Nat) (hi : i < l.length) (hnum : nu = true → NumT l[i]) (out : List ByteArray) (ho : out.length ≤ 16) (hos : ∀ y ∈ out, y.size ≤ 40) (hon : ∀ y ∈ out, nu = true → NumT y)
    (R : Option (List ByteArray × Bool)) (B : Nat) (hB : 101 ≤ B) (H : ∀ k, B < k → spec_ListSort.l0 k l nu dn (insS nu l[i] out) ((i + 1 : Nat) : Int) = R) :
    ∀ m kk, kk + m = out.length → (out.take kk).all (fun y => !ltS nu false l[i] y) = true → ∀ k, B + m + 1 < k → spec_ListSort.l1 k l nu dn out (i : Int) (kk : Int) = R
  | m, kk, h, ha, k + 1, hk => by
    have hw : wrap64 ((i : Int) + 1) = ((i + 1 : Nat) : Int) := by rw [wrap64_in (by omega) (by omega)]; rfl
    unfold spec_ListSort.l1
    by_cases hkk : kk < out.length
    · rw [if_pos (by omega), if_pos (by omega), if_pos (by omega), if_pos (by omega), rdOf_at l i hi, rdOf_at out kk hkk,
        less_f nu _ _ (hsz _ (List.getElem_mem hi)) (hos _ (List.getElem_mem hkk)) hnum (hon _ (List.getElem_mem hkk)) k (by omega)]
      simp only [Option.bind_some]
      by_cases hlt : ltS nu false l[i] out[kk] = true
      · rw [if_pos hlt, if_pos (by omega), if_pos (by simp; omega), if_pos (by simp; omega), if_pos (by simp; omega), hw]
        obtain ⟨h1, h2⟩ := while_at (fun y => !ltS nu false l[i] y) out kk ha (fun _ => by simp [hlt])
        have e : ([] ++ out.take (kk : Int).toNat ++ [l[i]] ++ out.drop (kk : Int).toNat : List ByteArray) = insS nu l[i] out := by
          unfold insS
          rw [h1, h2, Int.toNat_natCast]
          simp
        rw [e]
        exact H k (by omega)
      · rw [if_neg hlt, show wrap64 ((kk : Int) + 1) = ((kk + 1 : Nat) : Int) by rw [wrap64_in (by omega) (by omega)]; rfl]
        obtain ⟨m, rfl⟩ : ∃ q, m = q + 1 := ⟨m - 1, by omega⟩
        refine ins_loop l nu dn hl hsz i hi hnum out ho hos hon R B hB H m (kk + 1) (by omega) ?_ k (by omega)
        rw [List.take_succ_eq_append_getElem hkk, List.all_append, ha]
        simp [hlt]
    · rw [if_neg (by omega)]
      simp only [Option.bind_some]
      rw [if_pos (by omega), if_pos (by omega), if_pos (by simp; omega), if_pos (by omega), if_pos (by omega), rdOf_at l i hi, if_pos (by simp; omega), if_pos (by simp; omega), hw]
      obtain ⟨h1, h2⟩ := while_at (fun y => !ltS nu false l[i] y) out kk ha (fun hh => absurd hh hkk)
      have e : ([] ++ out.take (kk : Int).toNat ++ [l[i]] ++ out.drop (kk : Int).toNat : List ByteArray) = insS nu l[i] out := by
        unfold insS
        rw [h1, h2, Int.toNat_natCast]
        simp
      rw [e]
      exact H k (by omega)
theorem numT_iff {x : ByteArray} (hs : x.size ≤ 281474976710656) : (∃ v, impl_IntGet.f x = some (v, numB x)) ∧ (numB x = true ↔ NumT x) := by
  refine ⟨intGet_some hs, numB_numT, fun h => ?_⟩
  unfold numB
  have h2 : impl_IntGet.f x = some (atoiV x, true) := h
  rw [h2]
/-- The list behind the first i texts. -/
def runS (nu : Bool) (l : List ByteArray) : List ByteArray := l.foldl (fun out e => insS nu e out) []
theorem runS_snoc (nu : Bool) (l : List ByteArray) (e : ByteArray) : runS nu (l ++ [e]) = insS nu e (runS nu l) := by
  unfold runS
  rw [List.foldl_append, List.foldl_cons, List.foldl_nil]
theorem runS_ok (nu : Bool) : ∀ (n : Nat) (l : List ByteArray), l.length = n → (runS nu l).Perm l ∧ (runS nu l).Pairwise (fun x y => ltS nu false y x = false) := by
  intro n
  induction n with
  | zero => intro l h; rw [List.eq_nil_of_length_eq_zero h]; exact ⟨List.Perm.nil, List.Pairwise.nil⟩
  | succ n ih =>
    intro l h
    have hne : l ≠ [] := by intro e; rw [e] at h; simp at h
    obtain ⟨r, c, rfl⟩ : ∃ r c, l = r ++ [c] := ⟨l.dropLast, l.getLast hne, (List.dropLast_concat_getLast hne).symm⟩
    obtain ⟨h1, h2⟩ := ih r (by simp at h; exact h)
    rw [runS_snoc]
    exact ⟨(insS_perm nu c _).trans ((List.Perm.cons c h1).trans (List.perm_append_singleton c r).symm), insS_sorted nu c _ h2⟩
theorem sort_loop (l : List ByteArray) (nu dn : Bool) (hl : l.length ≤ 16) (hsz : ∀ x ∈ l, x.size ≤ 40) : ∀ (n i : Nat), i + n = l.length → (nu = true → (l.take i).all numB = true) → ∀ k, 200 + 20 * n < k →
    spec_ListSort.l0 k l nu dn (runS nu (l.take i)) (i : Int) = impl_ListSort.f l nu dn
  | 0, i, h, hn, k + 1, hk => by
    have hil : l.take i = l := List.take_of_length_le (by omega)
    have hok : okL l = true := by
      unfold okL
      rw [Bool.and_eq_true, List.all_eq_true]
      exact ⟨fun x hx => by simpa using hsz x hx, by simpa using hl⟩
    have hN : ∀ x ∈ l, nu = true → NumT x := fun x hx h1 => numB_numT (List.all_eq_true.1 (by rw [← hil]; exact hn h1) x hx)
    have hs : runS nu l = sortL nu false l := sort_uniq (runS_ok nu _ l rfl).1 (runS_ok nu _ l rfl).2 hN
    have hlen : (sortL nu false l).length = l.length := (sortL_perm nu false l).length_eq
    unfold spec_ListSort.l0
    rw [if_neg (by omega), hil, hs]
    have himpl : impl_ListSort.f l nu dn = some (sortL nu dn l, true) := by
      unfold impl_ListSort.f
      rw [if_pos (by omega), if_pos hok]
      cases nu with
      | false => rw [if_neg (by decide)]
      | true => rw [if_pos rfl, if_pos (by have := hn rfl; rw [hil] at this; exact this)]
    rw [himpl]
    cases dn with
    | false => rw [if_neg (by decide)]
    | true =>
      rw [if_pos rfl, turn_f _ (by omega) k (by omega)]
      simp only [Option.bind_some]
      rw [reverse_sortL nu l hN]
  | n + 1, i, h, hn, k + 2, hk => by
    have hi : i < l.length := by omega
    have hsi : l[i].size ≤ 40 := hsz _ (List.getElem_mem hi)
    have hok : okL l = true := by
      unfold okL
      rw [Bool.and_eq_true, List.all_eq_true]
      exact ⟨fun x hx => by simpa using hsz x hx, by simpa using hl⟩
    obtain ⟨⟨v, hv⟩, hiff⟩ := numT_iff (x := l[i]) (by omega)
    unfold spec_ListSort.l0
    rw [if_pos (by omega), if_pos (by omega), rdOf_at l i hi, specInt _ hsi (k + 1) (by omega), hv]
    simp only [Option.bind_some]
    have go : (nu = true → numB l[i] = true) → spec_ListSort.j1 (k + 1) l nu dn (runS nu (l.take i)) (i : Int) false = impl_ListSort.f l nu dn := by
      intro hb
      have hn2 : nu = true → (l.take (i + 1)).all numB = true := fun h1 => all_take_succ l i hi numB (hn h1) (hb h1)
      have hp := (runS_ok nu _ (l.take i) rfl).1
      have hpl : (runS nu (l.take i)).length = i := by rw [hp.length_eq, List.length_take]; omega
      unfold spec_ListSort.j1
      rw [if_neg (by decide)]
      refine ins_loop l nu dn hl hsz i hi (fun h1 => hiff.1 (hb h1)) _ (by omega) (fun y hy => hsz y (List.mem_of_mem_take (hp.mem_iff.1 hy))) (fun y hy h1 => numB_numT (List.all_eq_true.1 (hn h1) y (hp.mem_iff.1 hy)))
        (impl_ListSort.f l nu dn) (200 + 20 * n) (by omega) (fun k2 hk2 => ?_) (runS nu (l.take i)).length 0 (by omega) rfl k (by omega)
      have := sort_loop l nu dn hl hsz n (i + 1) (by omega) hn2 k2 hk2
      rw [List.take_succ_eq_append_getElem hi, runS_snoc] at this
      exact this
    cases nu with
    | false =>
      rw [if_neg (by decide)]
      exact go (fun h1 => by cases h1)
    | true =>
      rw [if_pos rfl]
      cases hb : numB l[i] with
      | true => exact go (fun _ => hb)
      | false =>
        show spec_ListSort.j1 (k + 1) l true dn (runS true (l.take i)) (i : Int) true = _
        unfold spec_ListSort.j1 spec_l2Copy.f
        simp only [Option.bind_some, List.length_nil, Nat.zero_add, List.nil_append]
        rw [if_pos trivial, if_pos (by omega)]
        simp only [Option.bind_some]
        have hall : l.all numB = false := by
          rw [List.all_eq_false]
          exact ⟨l[i], List.getElem_mem hi, by rw [hb]; decide⟩
        unfold impl_ListSort.f
        rw [if_pos (by omega), if_pos hok, if_pos rfl, hall, if_neg (by decide)]
theorem specSort (l : List ByteArray) (nu dn : Bool) (hl : l.length ≤ 1099511627776) (k : Nat) (hk : l.length + 600 < k) : spec_ListSort.f k l nu dn = impl_ListSort.f l nu dn := by
  unfold spec_ListSort.f
  simp only [Option.bind_some]
  rw [texts_f l hl k (by omega)]
  simp only [Option.bind_some]
  cases hok : okL l with
  | false =>
    rw [if_neg (by decide)]
    unfold impl_ListSort.f
    rw [if_pos hl, hok, if_neg (by decide)]
  | true =>
    rw [if_pos rfl]
    have h1 : l.length ≤ 16 ∧ ∀ x ∈ l, x.size ≤ 40 := by
      unfold okL at hok
      rw [Bool.and_eq_true, List.all_eq_true] at hok
      exact ⟨by simpa using hok.2, fun x hx => by simpa using hok.1 x hx⟩
    exact sort_loop l nu dn h1.1 h1.2 l.length 0 (by omega) (fun _ => rfl) k (by omega)

end Go.Proofs.YtkgomifdmpkaeaaDoor.PLsb
