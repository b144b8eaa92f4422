import Derived.Test.YtkgomifdmpkaeaaDoorPsx
import Derived.Test.YtkgomifdmpkaeaaDoorLsx5
namespace Go.Proofs.YtkgomifdmpkaeaaDoor.PLsx
open Go.RowKit Go.Proofs.YtkgomifdmpkaeaaDoor Go.Proofs.YtkgomifdmpkaeaaDoor.Lsx Go.Proofs.YtkgomifdmpkaeaaDoorW.PrintWords Go.Proofs.YtkgomifdmpkaeaaDoorW.PrintLast
theorem sz_loop (l : List ByteArray) (hl : l.length ≤ 9223372036854775807) (hs : ∀ x ∈ l, x.size ≤ 9223372036854775807) : ∀ (n i : Nat), i + n = l.length → ∀ (a : Int), 0 ≤ a → a ≤ 1048576 → ∀ k, n < k → ∃ r, laws_szStringS.l0 k l a (i : Int) = some r
  | 0, i, h, a, _, _, k + 1, _ => by
    unfold laws_szStringS.l0
    rw [if_neg (by omega)]
    exact ⟨_, rfl⟩
  | n + 1, i, h, a, a0, a1, k + 1, hk => by
    have hi : i < l.length := by omega
    have := hs _ (List.getElem_mem hi)
    unfold laws_szStringS.l0
    rw [if_pos (by omega), if_pos (by omega), rdOf_at l i hi, wrap64_in (by omega) (by omega), wrap64_in (by omega) (by omega)]
    by_cases h1 : a - (l[i].size : Int) < 0
    · rw [if_pos h1]
      exact ⟨_, rfl⟩
    · rw [if_neg h1, show ((i : Int) + 1) = ((i + 1 : Nat) : Int) by omega]
      exact sz_loop l hl hs n (i + 1) (by omega) _ (by omega) (by omega) k (by omega)
theorem sz_f (l : List ByteArray) (hl : l.length ≤ 9223372036854775807) (hs : ∀ x ∈ l, x.size ≤ 9223372036854775807) (k : Nat) (hk : l.length < k) : ∃ r, laws_szStringS.f k l 1048576 = some r ∧ (¬ r < 0 → l.length ≤ 1048576) := by
  unfold laws_szStringS.f
  rw [wrap64_in (by omega) (by omega)]
  by_cases h : (1048576 : Int) - (l.length : Int) < 0
  · rw [if_pos h]
    exact ⟨-1, rfl, fun h1 => absurd (by decide) h1⟩
  · rw [if_neg h]
    obtain ⟨r, hr⟩ := sz_loop l hl hs l.length 0 (by omega) ((1048576 : Int) - (l.length : Int)) (by omega) (by omega) k hk
    exact ⟨r, hr, fun _ => by omega⟩
theorem to_loop (l : List ByteArray) (hl : l.length ≤ 1048576) : ∀ (n i : Nat), i + n = l.length → ∀ k, n < k → laws_toStringS.l0 k l (l.take i ++ List.replicate n (⟨#[]⟩ : ByteArray)) (i : Int) = some l
  | 0, i, h, k + 1, _ => by
    unfold laws_toStringS.l0
    rw [if_neg (by omega), List.replicate_zero, List.append_nil, List.take_of_length_le (by omega)]
  | n + 1, i, h, k + 1, hk => by
    have hi : i < l.length := by omega
    unfold laws_toStringS.l0
    rw [if_pos (by omega), if_pos (by omega), if_pos (by simp; omega), rdOf_at l i hi, wrap64_in (by omega) (by omega), show ((i : Int) + 1) = ((i + 1 : Nat) : Int) by omega, Int.toNat_natCast]
    have e : (l.take i ++ List.replicate (n + 1) (⟨#[]⟩ : ByteArray)).set i l[i] = l.take (i + 1) ++ List.replicate n (⟨#[]⟩ : ByteArray) := by
      have h1 : (l.take i).length = i := by rw [List.length_take]; omega
      rw [List.set_append_right _ _ (by omega), h1, Nat.sub_self, List.replicate_succ, List.set_cons_zero, List.take_succ_eq_append_getElem hi, List.append_assoc]
      rfl
    rw [e]
    exact to_loop l hl n (i + 1) (by omega) k (by omega)
theorem to_f (l : List ByteArray) (hl : l.length ≤ 1048576) (k : Nat) (hk : l.length < k) : laws_toStringS.f k l = some l := by
  unfold laws_toStringS.f
  rw [if_pos (by omega), if_pos (by omega), Int.toNat_natCast]
  exact to_loop l hl l.length 0 (by omega) k hk
theorem eq_loop (l : List ByteArray) (hl : l.length ≤ 1048576) : ∀ (n i : Nat), i + n = l.length → ∀ k, n < k → laws_eqStringS.l0 k l l (i : Int) = some true
  | 0, i, h, k + 1, _ => by
    unfold laws_eqStringS.l0
    rw [if_neg (by omega)]
  | n + 1, i, h, k + 1, hk => by
    unfold laws_eqStringS.l0
    rw [if_pos (by omega), if_pos (by omega), if_pos (by omega), if_pos rfl, wrap64_in (by omega) (by omega), show ((i : Int) + 1) = ((i + 1 : Nat) : Int) by omega]
    exact eq_loop l hl n (i + 1) (by omega) k (by omega)
theorem eq_f (l : List ByteArray) (hl : l.length ≤ 1048576) (k : Nat) (hk : l.length < k) : laws_eqStringS.f k l l = some true := by
  unfold laws_eqStringS.f
  rw [if_pos rfl]
  exact eq_loop l hl l.length 0 (by omega) k hk
theorem mark_loop : ∀ (n : Nat) (m : Int) (x : ByteArray), 0 ≤ m → m ≤ 1000000000 → m < 10 ^ n → x.size + 100 * n ≤ 10000 → ∃ t, ∀ k, n < k → laws_markText.l0 k m x = some t
  | 0, m, x, h0, hq, h1, hx => by
    refine ⟨(⟨#[109]⟩ : ByteArray) ++ x, fun k hk => ?_⟩
    obtain ⟨k, rfl⟩ : ∃ q, k = q + 1 := ⟨k - 1, by omega⟩
    unfold laws_markText.l0
    rw [if_neg (by simp at h1; omega), if_pos (by omega)]
  | n + 1, m, x, h0, hq, h1, hx => by
    by_cases hm : m > 0
    · have hd : 0 ≤ Int.tdiv m 10 ∧ Int.tdiv m 10 < 10 ^ n := by
        rw [Int.tdiv_eq_ediv_of_nonneg h0]
        refine ⟨by omega, ?_⟩
        rw [Int.pow_succ] at h1
        omega
      have hsz : (strOfNums ([(wrap64 (48 + (Int.tmod m 10))) % 256] : List Int)).size = 1 := by
        simp [strOfNums]
        rfl
      have hw : wrap64 (Int.tdiv m 10) = Int.tdiv m 10 := by
        have h3 : Int.tdiv m 10 ≤ m := by rw [Int.tdiv_eq_ediv_of_nonneg h0]; omega
        have h4 := hd.1
        exact wrap64_in (by omega) (by omega)
      obtain ⟨t, ht⟩ := mark_loop n (Int.tdiv m 10) (strOfNums ([(wrap64 (48 + (Int.tmod m 10))) % 256] : List Int) ++ x) hd.1 (by rw [Int.tdiv_eq_ediv_of_nonneg h0]; omega) hd.2 (by rw [ByteArray.size_append, hsz]; omega)
      refine ⟨t, fun k hk => ?_⟩
      obtain ⟨k, rfl⟩ : ∃ q, k = q + 1 := ⟨k - 1, by omega⟩
      unfold laws_markText.l0
      rw [if_pos hm]
      simp only [Option.bind_some]
      rw [if_pos (by rw [hsz]; omega), hw]
      exact ht k (by omega)
    · refine ⟨(⟨#[109]⟩ : ByteArray) ++ x, fun k hk => ?_⟩
      obtain ⟨k, rfl⟩ : ∃ q, k = q + 1 := ⟨k - 1, by omega⟩
      unfold laws_markText.l0
      rw [if_neg hm, if_pos (by omega)]
theorem mark_f (m : Int) (h0 : 0 ≤ m) (h1 : m < 10 ^ 9) : ∃ t, ∀ k, 20 < k → laws_markText.f k m = some t := by
  by_cases h : m ≤ 0
  · refine ⟨(⟨#[109, 48]⟩ : ByteArray), fun k _ => ?_⟩
    unfold laws_markText.f
    rw [if_pos h]
  · obtain ⟨t, ht⟩ := mark_loop 9 m (⟨#[]⟩ : ByteArray) h0 (by omega) h1 (by decide)
    refine ⟨t, fun k hk => ?_⟩
    unfold laws_markText.f
    rw [if_neg h]
    exact ht k (by omega)
/-- The mark of a number. -/
noncomputable def markT (m : Nat) : ByteArray := if h : m < 10 ^ 9 then (mark_f (m : Int) (by omega) (by exact_mod_cast h)).choose else ByteArray.empty
theorem markT_f (m : Nat) (h : m < 10 ^ 9) (k : Nat) (hk : 20 < k) : laws_markText.f k (m : Int) = some (markT m) := by
  unfold markT
  rw [dif_pos h]
  exact (mark_f (m : Int) (by omega) (by exact_mod_cast h)).choose_spec k hk
noncomputable def marks (n : Nat) : List ByteArray := (List.range n).map fun j => markT (j + 1)
theorem marks_length (n : Nat) : (marks n).length = n := by simp [marks]
theorem marks_at (n i : Nat) (h : i < (marks n).length) : (marks n)[i] = markT (i + 1) := by simp [marks]
theorem markS_loop (l : List ByteArray) (hl : l.length ≤ 1048576) : ∀ (n i : Nat), i + n = l.length → ∀ k, n + 30 < k → laws_markStringS.l0 k (marks i ++ l.drop i) ((i + 1 : Nat) : Int) (i : Int) = some (((l.length + 1 : Nat) : Int), marks l.length)
  | 0, i, h, k + 1, hk => by
    have hi : i = l.length := by omega
    subst hi
    unfold laws_markStringS.l0
    rw [if_neg (by rw [List.length_append, marks_length, List.length_drop]; omega), List.drop_eq_nil_of_le (Nat.le_refl _), List.append_nil]
  | n + 1, i, h, k + 1, hk => by
    have hi : i < l.length := by omega
    have hm := markT_f (i + 1) (by omega) k (by omega)
    unfold laws_markStringS.l0
    rw [if_pos (by rw [List.length_append, marks_length, List.length_drop]; omega), hm]
    simp only [Option.bind_some]
    rw [if_pos (by omega), wrap64_in (by omega) (by omega), wrap64_in (by omega) (by omega), Int.toNat_natCast, show (((i + 1 : Nat) : Int) + 1) = ((i + 1 + 1 : Nat) : Int) by omega, show ((i : Int) + 1) = ((i + 1 : Nat) : Int) by omega]
    have e : (marks i ++ l.drop i).set i (markT (i + 1)) = marks (i + 1) ++ l.drop (i + 1) := by
      rw [List.set_append_right _ _ (by rw [marks_length]; omega), marks_length, Nat.sub_self, List.drop_eq_getElem_cons hi, List.set_cons_zero]
      unfold marks
      rw [List.range_succ, List.map_append, List.append_assoc]
      rfl
    rw [e]
    exact markS_loop l hl n (i + 1) (by omega) k (by omega)
theorem markS_f (l : List ByteArray) (hl : l.length ≤ 1048576) (k : Nat) (hk : l.length + 30 < k) : laws_markStringS.f k l 1 = some (((l.length + 1 : Nat) : Int), marks l.length) := by
  unfold laws_markStringS.f
  have := markS_loop l hl l.length 0 (by omega) k hk
  simpa [marks] using this
theorem heldS_loop (N : Nat) (hN : N ≤ 1048576) : ∀ (n i : Nat), i + n = N → ∀ k, n + 30 < k → laws_heldStringS.l0 k (marks N) ((i + 1 : Nat) : Int) (i : Int) = some ((N + 1 : Nat) : Int)
  | 0, i, h, k + 1, hk => by
    unfold laws_heldStringS.l0
    rw [if_neg (by rw [marks_length]; omega), show i = N by omega]
  | n + 1, i, h, k + 1, hk => by
    have hm := markT_f (i + 1) (by omega) k (by omega)
    have hi : i < (marks N).length := by rw [marks_length]; omega
    unfold laws_heldStringS.l0
    rw [if_pos (by rw [marks_length]; omega), if_pos (by omega), hm]
    simp only [Option.bind_some]
    rw [rdOf_at _ i hi, marks_at N i hi, if_pos rfl, wrap64_in (by omega) (by omega), wrap64_in (by omega) (by omega), show (((i + 1 : Nat) : Int) + 1) = ((i + 1 + 1 : Nat) : Int) by omega, show ((i : Int) + 1) = ((i + 1 : Nat) : Int) by omega]
    exact heldS_loop N hN n (i + 1) (by omega) k (by omega)
theorem heldS_f (N : Nat) (hN : N ≤ 1048576) (k : Nat) (hk : N + 30 < k) : laws_heldStringS.f k (marks N) 1 = some ((N + 1 : Nat) : Int) := by
  unfold laws_heldStringS.f
  have := heldS_loop N hN N 0 (by omega) k hk
  simpa using this
theorem impl_some (l : List ByteArray) (nu dn : Bool) (hl : l.length ≤ 1099511627776) : ∃ r b, impl_ListSort.f l nu dn = some (r, b) ∧ r.length ≤ l.length := by
  unfold impl_ListSort.f
  rw [if_pos hl]
  split
  · split
    · split
      · exact ⟨_, _, rfl, Nat.le_of_eq (sortL_perm _ _ _).length_eq⟩
      · exact ⟨_, _, rfl, Nat.le_refl _⟩
    · exact ⟨_, _, rfl, Nat.le_of_eq (sortL_perm _ _ _).length_eq⟩
  · exact ⟨_, _, rfl, Nat.zero_le _⟩
/-- The program's ListSort answers what the reference's does, and hands on nothing that is shared. -/
theorem FnExactListSort (l : List ByteArray) (nu dn : Bool) (hl : l.length ≤ 9223372036854775807) (hs : ∀ x ∈ l, x.size ≤ 9223372036854775807) : ∃ k, laws_FnExactListSort.f k l nu dn = some true := by
  obtain ⟨K, hK⟩ : ∃ K, K = l.length + 1000 := ⟨_, rfl⟩
  refine ⟨K + 10, ?_⟩
  unfold laws_FnExactListSort.f
  obtain ⟨z, hz, hzl⟩ := sz_f l hl hs (K + 10) (by omega)
  rw [hz]
  simp only [Option.bind_some]
  by_cases hzn : z < 0
  · rw [if_pos hzn]
  · have hl1 := hzl hzn
    obtain ⟨r, b, hr, hrl⟩ := impl_some l nu dn (by omega)
    rw [if_neg hzn, to_f l hl1 _ (by omega)]
    simp only [Option.bind_some]
    rw [specSort l nu dn (by omega) _ (by omega), hr]
    simp only [Option.bind_some]
    rw [eq_f r (by omega) _ (by omega)]
    simp only [Option.bind_some]
    rw [if_pos trivial]
    simp only [laws_FnExactListSort.j0, bne_self_eq_false, Bool.false_eq_true, if_false]
    rw [to_f l hl1 _ (by omega)]
    simp only [Option.bind_some]
    rw [eq_f l hl1 _ (by omega)]
    simp only [Option.bind_some]
    rw [if_pos trivial, markS_f l hl1 _ (by omega)]
    simp only [Option.bind_some]
    rw [if_neg (by omega), eq_f r (by omega) _ (by omega)]
    simp only [Option.bind_some]
    rw [if_pos trivial]
    simp only [laws_FnExactListSort.j1, Bool.false_eq_true, if_false]
    rw [markS_f r (by omega) _ (by omega)]
    simp only [Option.bind_some]
    rw [heldS_f r.length (by omega) _ (by omega)]
    simp only [Option.bind_some]
    rw [if_neg (by omega), if_pos trivial, to_f l hl1 _ (by omega)]
    simp only [Option.bind_some]
    rw [hr]
    simp only [Option.bind_some]
    rw [eq_f r (by omega) _ (by omega)]
    simp only [Option.bind_some]
    rw [if_pos trivial]
    simp only [laws_FnExactListSort.j2, bne_self_eq_false, Bool.false_eq_true, if_false]
    rw [heldS_f r.length (by omega) _ (by omega)]
    simp only [Option.bind_some]
    rw [if_neg (by omega), if_pos trivial]
end Go.Proofs.YtkgomifdmpkaeaaDoor.PLsx
