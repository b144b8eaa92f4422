/- The plain law of FnListSort: whatever bytes come in, the law's function returns true. -/
import Derived.Test.YtkgomifdmpkaeaaDoorDrawLs
import Derived.Test.YtkgomifdmpkaeaaDoorPsb
import Derived.Test.YtkgomifdmpkaeaaDoorLsb5
namespace Go.Proofs.YtkgomifdmpkaeaaDoor.PLsb
open Go.RowKit Go.Proofs.YtkgomifdmpkaeaaDoor Go.Proofs.YtkgomifdmpkaeaaDoor.Lsb Go.Proofs.YtkgomifdmpkaeaaDoorW.PrintWords Go.Proofs.YtkgomifdmpkaeaaDoorW.PrintLast
def same (e y : ByteArray) : Bool := decide (y.toList = e.toList)
def cnt (m : List ByteArray) (e : ByteArray) (j : Nat) : Nat := (m.take j).countP (same e)
theorem cnt_succ (m : List ByteArray) (e : ByteArray) (j : Nat) (hj : j < m.length) : cnt m e (j + 1) = cnt m e j + (if m[j].toList = e.toList then 1 else 0) := by
  unfold cnt
  rw [List.take_succ_eq_append_getElem hj, List.countP_append]
  congr 1
  by_cases h : m[j].toList = e.toList
  · simp [same, h]
  · simp [same, h]
theorem cnt_le (m : List ByteArray) (e : ByteArray) (j : Nat) : cnt m e j ≤ j := by
  unfold cnt
  exact Nat.le_trans List.countP_le_length (by rw [List.length_take]; omega)
structure Sorted (nu dn : Bool) (l x y : List ByteArray) : Prop where
  perm : x.Perm l
  small : x.length ≤ 16
  size : ∀ e ∈ x, e.size ≤ 40
  num : ∀ e ∈ x, nu = true → NumT e
  ord : x.Pairwise (fun a b => ltS nu dn b a = false)
  rev : y = x.reverse
theorem qx_loop (l : List ByteArray) (hl : l.length ≤ 1048576) : ∀ (n i : Nat), i + n = l.length → ∀ k, n < k → laws_qxTexts.l0 k l l (i : Int) = some true
  | 0, i, h, k + 1, _ => by
    unfold laws_qxTexts.l0
    rw [if_neg (by omega)]
  | n + 1, i, h, k + 1, hk => by
    unfold laws_qxTexts.l0
    rw [if_pos (by omega), if_pos (by omega), if_pos (by omega), if_pos rfl, wrap64_in (by omega) (by omega), show ((i : Int) + 1) = ((i + 1 : Nat) : Int) by omega]
    exact qx_loop l hl n (i + 1) (by omega) k (by omega)
theorem qx_f (l : List ByteArray) (hl : l.length ≤ 1048576) (k : Nat) (hk : l.length < k) : laws_qxTexts.f k l l = some true := by
  unfold laws_qxTexts.f
  rw [if_pos rfl]
  exact qx_loop l hl l.length 0 (by omega) k hk
theorem rev_at (x : List ByteArray) (i : Nat) (hi : i < x.length) : rdOf ByteArray.empty x.reverse (((x.length - 1 - i : Nat)) : Int) = x[i] := by
  rw [rdOf_at _ _ (by rw [List.length_reverse]; omega), List.getElem_reverse]
  congr 1
  omega
theorem ord_at {nu dn : Bool} {l x y : List ByteArray} (S : Sorted nu dn l x y) (i : Nat) (hi : i + 1 < x.length) : ltS nu dn x[i + 1] x[i] = false := by
  have := List.pairwise_iff_getElem.1 S.ord i (i + 1) (by omega) hi (by omega)
  exact this
theorem five (k : Nat) (l : List ByteArray) (nu dn : Bool) (x y : List ByteArray) (i : Nat) (hi : i < 1000) (H : laws_FnListSort.l0 k l nu dn x y true x true ((i + 1 : Nat) : Int) = some true) : laws_FnListSort.j5 (k + 1) l nu dn x y true x true (i : Int) false = some true := by
  unfold laws_FnListSort.j5
  rw [if_neg (by decide), wrap64_in (by omega) (by omega)]
  exact H
theorem four {nu dn : Bool} {l x y : List ByteArray} (S : Sorted nu dn l x y) (i : Nat) (hi : i < x.length) (c v v' : Int) (k : Nat) (hv : nu = true → v = atoiV x[i]) (h0 : i = 0 → v' = v) (h1 : ∀ h : 0 < i, nu = true → v' = atoiV (x[i - 1]'(by omega)))
    (H : laws_FnListSort.l0 k l nu dn x y true x true ((i + 1 : Nat) : Int) = some true) : laws_FnListSort.j4 (k + 2) l nu dn x y true x true (i : Int) c c v v' = some true := by
  have hs := S.small
  have F := five k l nu dn x y i (by omega) H
  have hyl : y.length = x.length := by rw [S.rev, List.length_reverse]
  have e1 : wrap64 ((wrap64 ((y.length : Int) - 1)) - (i : Int)) = ((x.length - 1 - i : Nat) : Int) := by
    rw [wrap64_in (x := (y.length : Int) - 1) (by omega) (by omega), wrap64_in (by omega) (by omega)]
    omega
  have e2 : (rdOf ByteArray.empty x (i : Int)) = x[i] := rdOf_at x i hi
  have e3 : rdOf ByteArray.empty y ((x.length - 1 - i : Nat) : Int) = x[i] := by rw [S.rev]; exact rev_at x i hi
  unfold laws_FnListSort.j4
  rw [if_pos rfl, if_pos (by omega), if_pos (by omega), e1, if_pos (by omega), if_pos (by omega), e2, e3, if_pos rfl]
  have prev : ∀ h : 0 < i, ltS nu dn x[i] (x[i - 1]'(by omega)) = false := by
    intro h
    obtain ⟨j, rfl⟩ : ∃ j, i = j + 1 := ⟨i - 1, by omega⟩
    exact ord_at S j hi
  cases nu with
  | true =>
    have hv := hv rfl
    rw [if_pos rfl]
    have key : (dn = true → ¬ v' < v) ∧ (dn = false → ¬ v' > v) := by
      rcases Nat.eq_zero_or_pos i with h | h
      · have := h0 h
        exact ⟨fun _ => by omega, fun _ => by omega⟩
      · have hp := prev h
        have hv' := h1 h rfl
        refine ⟨fun hd => ?_, fun hd => ?_⟩
        · subst hd
          rw [ltS_down, ltS_n] at hp
          simp at hp
          omega
        · subst hd
          rw [ltS_n] at hp
          simp at hp
          omega
    cases dn with
    | true => rw [if_pos rfl, if_neg (key.1 rfl)]; exact F
    | false => rw [if_neg (by decide), if_neg (key.2 rfl)]; exact F
  | false =>
    rw [if_neg (by decide)]
    by_cases h : 0 < i
    · have hp := prev h
      have e4 : wrap64 ((i : Int) - 1) = ((i - 1 : Nat) : Int) := by rw [wrap64_in (by omega) (by omega)]; omega
      have e5 : rdOf ByteArray.empty x ((i - 1 : Nat) : Int) = x[i - 1]'(by omega) := rdOf_at x (i - 1) (by omega)
      rw [if_pos (by omega)]
      cases dn with
      | true =>
        rw [ltS_down, ltS_s] at hp
        rw [if_pos rfl, e4, if_pos (by omega), if_pos (by omega), e5, hp, if_neg (by decide)]
        exact F
      | false =>
        rw [ltS_s] at hp
        rw [if_neg (by decide), e4, if_pos (by omega), if_pos (by omega), e5, hp]
        exact F
    · rw [if_neg (by omega)]
      exact F
theorem up_ (j : Nat) (h : j < 2000000) : wrap64 ((j : Int) + 1) = ((j + 1 : Nat) : Int) := by rw [wrap64_in (by omega) (by omega)]; rfl
theorem down_ (j : Nat) (h0 : 0 < j) (h : j < 2000000) : wrap64 ((j : Int) - 1) = ((j - 1 : Nat) : Int) := by rw [wrap64_in (by omega) (by omega)]; omega
theorem num_v {x : ByteArray} {v : Int} {b : Bool} (h : impl_IntGet.f x = some (v, b)) (hn : NumT x) : v = atoiV x := by
  have h2 : impl_IntGet.f x = some (atoiV x, true) := hn
  rw [h] at h2
  exact (Prod.mk.inj (Option.some.inj h2)).1
theorem one_loop {nu dn : Bool} {l x y : List ByteArray} (S : Sorted nu dn l x y) (i : Nat) (hi : i < x.length) (B : Nat) (H : ∀ k, B < k → laws_FnListSort.l0 k l nu dn x y true x true ((i + 1 : Nat) : Int) = some true) :
    ∀ (m j : Nat), j + m = x.length → ∀ k, B + 2 * m + 10 < k → laws_FnListSort.l1 k l nu dn x y true x true (i : Int) (cnt x x[i] j : Int) (cnt l x[i] j : Int) (j : Int) = some true := by
  intro m
  induction m with
  | zero =>
    intro j h k hk
    obtain ⟨k, rfl⟩ : ∃ m, k = m + 3 := ⟨k - 3, by omega⟩
    have hs := S.small
    have hlen := S.perm.length_eq
    have hc : cnt x x[i] j = cnt l x[i] j := by
      unfold cnt
      rw [List.take_of_length_le (by omega), List.take_of_length_le (by omega)]
      exact S.perm.countP_eq _
    have hsz := S.size _ (List.getElem_mem hi)
    obtain ⟨v, hv⟩ := intGet_some (x := x[i]) (by omega)
    have hvn : nu = true → v = atoiV x[i] := fun h => num_v hv (S.num _ (List.getElem_mem hi) h)
    unfold laws_FnListSort.l1
    rw [if_neg (by omega), if_pos (by omega), if_pos (by omega), rdOf_at x i hi, hv, hc]
    simp only [Option.bind_some]
    by_cases h0 : 0 < i
    · have e4 : wrap64 ((i : Int) - 1) = ((i - 1 : Nat) : Int) := by rw [wrap64_in (by omega) (by omega)]; omega
      have hi1 : i - 1 < x.length := by omega
      have hsz1 := S.size _ (List.getElem_mem hi1)
      obtain ⟨v1, hv1⟩ := intGet_some (x := x[i - 1]) (by omega)
      rw [if_pos (by omega), down_ i h0 (by omega), if_pos (by omega), if_pos (by omega), rdOf_at x (i - 1) hi1, hv1]
      simp only [Option.bind_some]
      exact four S i hi _ v v1 k hvn (fun h2 => by omega) (fun _ h2 => num_v hv1 (S.num _ (List.getElem_mem hi1) h2)) (H k (by omega))
    · rw [if_neg (by omega)]
      exact four S i hi _ v v k hvn (fun _ => rfl) (fun h2 => absurd h2 h0) (H k (by omega))
  | succ m ih =>
    intro j h k hk
    obtain ⟨k, rfl⟩ : ∃ m, k = m + 2 := ⟨k - 2, by omega⟩
    have hs := S.small
    have hlen := S.perm.length_eq
    have hj : j < x.length := by omega
    have hjl : j < l.length := by omega
    have cx := cnt_succ x x[i] j hj
    have cl := cnt_succ l x[i] j hjl
    have lx := cnt_le x x[i] j
    have ll := cnt_le l x[i] j
    have next := ih (j + 1) (by omega) k (by omega)
    have step : ∀ a : Nat, a = cnt x x[i] (j + 1) → laws_FnListSort.j3 (k + 1) l nu dn x y true x true (i : Int) (a : Int) (cnt l x[i] j : Int) (j : Int) = some true := by
      intro a ha
      unfold laws_FnListSort.j3
      rw [if_pos (by omega), if_pos (by omega), if_pos (by omega), if_pos (by omega), rdOf_at l j hjl, rdOf_at x i hi, up_ j (by omega), ha]
      by_cases hq : l[j].toList = x[i].toList
      · rw [if_pos hq] at cl
        rw [if_pos hq, up_ _ (by omega), ← cl]
        exact next
      · rw [if_neg hq] at cl
        rw [if_neg hq, ← (show cnt l x[i] (j + 1) = cnt l x[i] j by omega)]
        exact next
    unfold laws_FnListSort.l1
    rw [if_pos (by omega), if_pos (by omega), if_pos (by omega), if_pos (by omega), rdOf_at x j hj, rdOf_at x i hi]
    by_cases hq : x[j].toList = x[i].toList
    · rw [if_pos hq] at cx
      rw [if_pos hq, up_ _ (by omega)]
      exact step _ cx.symm
    · rw [if_neg hq] at cx
      rw [if_neg hq]
      exact step _ (by omega)
theorem outer {nu dn : Bool} {l x y : List ByteArray} (S : Sorted nu dn l x y) : ∀ (n i : Nat), i + n = x.length → ∀ k, 100 + 100 * n < k → laws_FnListSort.l0 k l nu dn x y true x true (i : Int) = some true := by
  intro n
  induction n with
  | zero =>
    intro i h k hk
    obtain ⟨k, rfl⟩ : ∃ m, k = m + 1 := ⟨k - 1, by omega⟩
    have hs := S.small
    have hlen := S.perm.length_eq
    unfold laws_FnListSort.l0
    rw [if_neg (by omega), if_pos rfl, if_pos rfl, qx_f x (by omega) k (by omega)]
    simp only [Option.bind_some]
    rw [if_pos trivial, hlen]
    simp
  | succ n ih =>
    intro i h k hk
    obtain ⟨k, rfl⟩ : ∃ m, k = m + 1 := ⟨k - 1, by omega⟩
    have hs := S.small
    have hi : i < x.length := by omega
    unfold laws_FnListSort.l0
    rw [if_pos (by omega)]
    have := one_loop S i hi (100 + 100 * n) (fun k2 hk2 => ih (i + 1) (by omega) k2 hk2) x.length 0 (by omega) k (by omega)
    simpa [cnt] using this
theorem f_eq (k : Nat) (l0 : List Int) (l : List ByteArray) (nu dn : Bool) (x : List ByteArray) (ok : Bool) (h0 : ¬ (l0.length : Int) > 1048576) (hd : spec_DrawListSort.f k l0 = some (l, nu, dn))
    (hi : impl_ListSort.f l nu dn = some (x, ok)) (hs : spec_ListSort.f k l nu dn = some (x, ok)) (hq : laws_qxTexts.f k x x = some true) :
    laws_FnListSort.f k l0 = laws_FnListSort.j0 k l nu dn x ok x ok (!ok) := by
  unfold laws_FnListSort.f
  rw [if_neg h0, hd]
  simp only [Option.bind_some]
  rw [hi]
  simp only [Option.bind_some]
  rw [hs]
  simp only [Option.bind_some, bne_self_eq_false, Bool.false_eq_true, if_false]
  rw [hq]
  simp only [Option.bind_some, if_true]
theorem j0_bad (F : Nat) (l : List ByteArray) (nu dn : Bool) (x : List ByteArray) (hq : laws_qxTexts.f F x x = some true) : laws_FnListSort.j0 (F + 1) l nu dn x false x false (!false) = some true := by
  rw [laws_FnListSort.j0.eq_2]
  rw [if_pos (by decide), if_pos (by decide), hq]
  simp only [Option.bind_some]
theorem j0_good (F : Nat) (l : List ByteArray) (nu dn : Bool) (x y : List ByteArray) (h1 : impl_ListSort.f l nu (!dn) = some (y, true)) (h2 : impl_ListSort.f x nu dn = some (x, true))
    (h3 : laws_FnListSort.l0 F l nu dn x y true x true 0 = some true) : laws_FnListSort.j0 (F + 1) l nu dn x true x true (!true) = some true := by
  rw [laws_FnListSort.j0.eq_2]
  rw [if_neg (by decide), h1]
  simp only [Option.bind_some]
  rw [h2]
  simp only [Option.bind_some]
  exact h3
theorem good_ (F : Nat) (hF : 9000 < F) (l : List ByteArray) (nu dn : Bool) (hl : l.length ≤ 16) (hz : ∀ x ∈ l, x.size ≤ 40) (hN : ∀ x ∈ l, nu = true → NumT x) (hI : ∀ d, impl_ListSort.f l nu d = some (sortL nu d l, true)) :
    laws_FnListSort.j0 (F + 1) l nu dn (sortL nu dn l) true (sortL nu dn l) true (!true) = some true := by
  have hp := sortL_perm nu dn l
  have hlen := hp.length_eq
  have hxN : ∀ x ∈ sortL nu dn l, nu = true → NumT x := fun x hx => hN x (hp.mem_iff.1 hx)
  have hrev : sortL nu (!dn) l = (sortL nu dn l).reverse := by
    cases dn with
    | false => exact (reverse_sortL nu l hN).symm
    | true => show sortL nu false l = _; rw [← reverse_sortL nu l hN, List.reverse_reverse]
  have hzz : impl_ListSort.f (sortL nu dn l) nu dn = some (sortL nu dn l, true) := by
    have hz2 : sortL nu dn (sortL nu dn l) = sortL nu dn l := (sort_uniq (List.Perm.refl _) (sortL_sorted nu dn l) hxN).symm
    have hok2 : okL (sortL nu dn l) = true := by
      unfold okL
      rw [Bool.and_eq_true, List.all_eq_true]
      exact ⟨fun x hx => by simpa using hz x (hp.mem_iff.1 hx), by simp; omega⟩
    unfold impl_ListSort.f
    rw [if_pos (by omega), if_pos hok2]
    cases nu with
    | false => rw [if_neg (by decide), hz2]
    | true =>
      rw [if_pos rfl, if_pos (List.all_eq_true.2 fun x hx => by have h2 : impl_IntGet.f x = some (atoiV x, true) := hxN x hx rfl; unfold numB; rw [h2]), hz2]
  have S : Sorted nu dn l (sortL nu dn l) (sortL nu (!dn) l) := ⟨hp, by omega, fun x hx => hz x (hp.mem_iff.1 hx), hxN, sortL_sorted nu dn l, hrev⟩
  exact j0_good F l nu dn _ _ (hI (!dn)) hzz (outer S (sortL nu dn l).length 0 (Nat.zero_add _) F (by omega))
theorem FnListSort : laws_FnListSort.Pure := by
  intro l0 _ _ hb0
  have by0 : Bytes l0 := fun x hx => by have := hb0 x hx; simp [Lit.wf, IntKind.min, IntKind.max, IntKind.signed, IntKind.bits] at this; omega
  obtain ⟨K, hK⟩ : ∃ K, K = 9900 := ⟨_, rfl⟩
  obtain ⟨l, nu, dn, hd, hl⟩ := draw_f K l0 by0
  obtain ⟨F, hF, hF9⟩ : ∃ F, F + 1 = K + 100 ∧ 9000 < F := ⟨K + 99, rfl, by omega⟩
  rw [← hF] at hd
  refine ⟨F + 1, ?_⟩
  clear hF hK
  by_cases h0 : (l0.length : Int) > 1048576
  · unfold laws_FnListSort.f
    rw [if_pos h0]
  · have hsp := specSort l nu dn (by omega) (F + 1) (by omega)
    cases hok : okL l with
    | false =>
      have e : impl_ListSort.f l nu dn = some ([], false) := by unfold impl_ListSort.f; rw [if_pos (by omega), hok, if_neg (by decide)]
      rw [f_eq (F + 1) l0 l nu dn [] false h0 hd e (hsp.trans e) (qx_f [] (by simp) _ (by simp))]
      exact j0_bad F l nu dn [] (qx_f [] (by simp) _ (by simp; omega))
    | true =>
      have hk : l.length ≤ 16 ∧ ∀ x ∈ l, x.size ≤ 40 := by
        unfold okL at hok
        rw [Bool.and_eq_true, List.all_eq_true] at hok
        exact ⟨by simpa using hok.2, fun x hx => by simpa using hok.1 x hx⟩
      have fin : (∀ x ∈ l, nu = true → NumT x) → (∀ d, impl_ListSort.f l nu d = some (sortL nu d l, true)) → laws_FnListSort.f (F + 1) l0 = some true := by
        intro hN hI
        have hlen := (sortL_perm nu dn l).length_eq
        rw [f_eq (F + 1) l0 l nu dn _ true h0 hd (hI dn) (hsp.trans (hI dn)) (qx_f _ (by omega) _ (by omega))]
        exact good_ F hF9 l nu dn hk.1 hk.2 hN hI
      cases nu with
      | false => exact fin (fun _ _ h => by cases h) (fun d => by unfold impl_ListSort.f; rw [if_pos (by omega), if_pos hok, if_neg (by decide)])
      | true =>
        cases hall : l.all numB with
        | true => exact fin (fun x hx _ => numB_numT (List.all_eq_true.1 hall x hx)) (fun d => by unfold impl_ListSort.f; rw [if_pos (by omega), if_pos hok, if_pos rfl, hall, if_pos rfl])
        | false =>
          have e : impl_ListSort.f l true dn = some (l, false) := by unfold impl_ListSort.f; rw [if_pos (by omega), if_pos hok, if_pos rfl, hall, if_neg (by decide)]
          rw [f_eq (F + 1) l0 l true dn l false h0 hd e (hsp.trans e) (qx_f l (by omega) _ (by omega))]
          exact j0_bad F l true dn l (qx_f l (by omega) _ (by omega))

end Go.Proofs.YtkgomifdmpkaeaaDoor.PLsb
