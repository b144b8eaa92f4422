/- What the law FnListSort draws. -/
import Derived.Laws.BitsAllLaws
import Derived.Test.YtkgomifdmpkaeaaDoorLsb4
namespace Go.Proofs.YtkgomifdmpkaeaaDoor.PLsb
open Go.RowKit Go.Proofs.YtkgomifdmpkaeaaDoor Go.Proofs.YtkgomifdmpkaeaaDoor.Lsb Go.Proofs.YtkgomifdmpkaeaaDoorW.PrintWords Go.Proofs.YtkgomifdmpkaeaaDoorW.PrintLast
theorem wrap64_id {x : Int} (h0 : -9223372036854775808 ≤ x) (h1 : x ≤ 9223372036854775807) : wrap64 x = x := by
  unfold wrap64; omega
theorem i64_xor_nat (a b : Nat) (ha : a < 4611686018427387904) (hb : b < 4611686018427387904) : bits .xor .i64 (a : Int) (b : Int) = ((a ^^^ b : Nat) : Int) ∧ a ^^^ b < 4611686018427387904 := by
  have hx : a ^^^ b < 2 ^ 62 := Nat.xor_lt_two_pow (by omega) (by omega)
  have h1 : (BitVec.ofInt 64 (a : Int)).toNat = a := by
    rw [BitVec.ofInt_natCast, BitVec.toNat_ofNat]; exact Nat.mod_eq_of_lt (by omega)
  have h2 : (BitVec.ofInt 64 (b : Int)).toNat = b := by
    rw [BitVec.ofInt_natCast, BitVec.toNat_ofNat]; exact Nat.mod_eq_of_lt (by omega)
  refine ⟨?_, by omega⟩
  show IntKind.i64.wrap ((BitVec.ofInt 64 (a : Int) ^^^ BitVec.ofInt 64 (b : Int)).toNat : Int) = _
  rw [BitVec.toNat_xor, h1, h2]
  simp [IntKind.wrap, IntKind.bits, IntKind.signed]
  omega
theorem xor_nonneg {x y : Int} (hx : 0 ≤ x) (hx1 : x < 4611686018427387904) (hy : 0 ≤ y) (hy1 : y < 4611686018427387904) : 0 ≤ bits .xor .i64 x y := by
  obtain ⟨a, rfl⟩ := Int.eq_ofNat_of_zero_le hx
  obtain ⟨b, rfl⟩ := Int.eq_ofNat_of_zero_le hy
  rw [(i64_xor_nat a b (by omega) (by omega)).1]
  omega
/-- A list of bytes, as numbers. -/
def Bytes (s : List Int) : Prop := ∀ x ∈ s, 0 ≤ x ∧ x ≤ 255
theorem rd_byte {s : List Int} (h : Bytes s) (i : Int) : 0 ≤ rd s i ∧ rd s i ≤ 255 := by
  unfold rd
  rw [List.getD_eq_getElem?_getD]
  cases e : s[i.toNat]? with
  | none => simp
  | some x => simpa using h x (List.mem_of_getElem? e)
theorem tmod_lt' {x n : Int} (h0 : 0 ≤ x) (hn : 1 ≤ n) : 0 ≤ Int.tmod x n ∧ Int.tmod x n < n := ⟨Int.tmod_nonneg _ h0, Int.tmod_lt_of_pos _ (by omega)⟩

theorem pick_spec (k : Nat) (s : List Int) (hs : Bytes s) (hl : s.length ≤ 2000) (p n : Int) (hp0 : 0 ≤ p) (hp : p ≤ 1000000) (hn : 1 ≤ n) (hn1 : n ≤ 1000000) :
    ∃ r, spec_l1Rd_pick.f (k + 1) s p n = some (r, p + 1) ∧ 0 ≤ r ∧ r < n := by
  have e0 : wrap64 (p + 1) = p + 1 := wrap64_id (by omega) (by omega)
  have e1 : wrap64 (p + 1 - 1) = p := by rw [wrap64_id (by omega) (by omega)]; omega
  unfold spec_l1Rd_pick.f
  rw [if_neg (by omega), e0]
  simp only [spec_l1Rd_pick.j0, e1]
  by_cases hz : s = []
  · subst hz
    exact ⟨0, by simp, by omega, by omega⟩
  · have hlen : 0 < s.length := List.length_pos_iff.2 hz
    have hne : ((s.length : Int) == 0) = false := by simpa using hz
    rw [if_neg (by simp [hz])]
    by_cases hlt : p < (s.length : Int)
    · rw [if_pos hlt, if_pos hp0, if_neg (by omega)]
      obtain ⟨b0, b1⟩ := rd_byte hs p
      rw [wrap64_id (by omega) (by omega)]
      obtain ⟨t0, t1⟩ := tmod_lt' b0 hn
      exact ⟨_, rfl, t0, t1⟩
    · rw [if_neg hlt, if_neg (by omega)]
      have e2 : wrap64 (p * 7) = p * 7 := wrap64_id (by omega) (by omega)
      have e3 : wrap64 (p * 7 + 3) = p * 7 + 3 := wrap64_id (by omega) (by omega)
      simp only [e2, e3]
      obtain ⟨m0, m1⟩ := tmod_lt' (x := p) (n := (s.length : Int)) hp0 (by omega)
      obtain ⟨m2, m3⟩ := tmod_lt' (x := p * 7 + 3) (n := (s.length : Int)) (by omega) (by omega)
      rw [if_pos m0, if_pos m1, if_pos m2, if_pos m3, if_neg (by omega)]
      obtain ⟨a0, a1⟩ := rd_byte hs (Int.tmod p (s.length : Int))
      obtain ⟨b0, b1⟩ := rd_byte hs (Int.tmod (p * 7 + 3) (s.length : Int))
      generalize rd s (Int.tmod p (s.length : Int)) = A at *
      generalize rd s (Int.tmod (p * 7 + 3) (s.length : Int)) = B at *
      have d0 : 0 ≤ Int.tdiv p (s.length : Int) := Int.tdiv_nonneg hp0 (by omega)
      have d1 : Int.tdiv p (s.length : Int) ≤ p := by
        rw [Int.tdiv_eq_ediv_of_nonneg hp0]
        exact Int.ediv_le_self _ hp0
      generalize Int.tdiv p (s.length : Int) = D at *
      have f1 : wrap64 A = A := wrap64_id (by omega) (by omega)
      have f2 : wrap64 (A * 131) = A * 131 := wrap64_id (by omega) (by omega)
      have f3 : wrap64 B = B := wrap64_id (by omega) (by omega)
      have f4 : wrap64 (B * 1117) = B * 1117 := wrap64_id (by omega) (by omega)
      have f5 : wrap64 (A * 131 + B * 1117) = A * 131 + B * 1117 := wrap64_id (by omega) (by omega)
      have f6 : wrap64 (p * 29) = p * 29 := wrap64_id (by omega) (by omega)
      have f7 : wrap64 (A * 131 + B * 1117 + p * 29) = A * 131 + B * 1117 + p * 29 := wrap64_id (by omega) (by omega)
      have f8 : wrap64 D = D := wrap64_id (by omega) (by omega)
      have f9 : wrap64 (D * 53) = D * 53 := wrap64_id (by omega) (by omega)
      have f10 : wrap64 (A * 131 + B * 1117 + p * 29 + D * 53) = A * 131 + B * 1117 + p * 29 + D * 53 := wrap64_id (by omega) (by omega)
      simp only [f1, f2, f3, f4, f5, f6, f7, f8, f9, f10]
      have x0 : 0 ≤ A * 131 + B * 1117 + p * 29 + D * 53 := by omega
      have x1 : A * 131 + B * 1117 + p * 29 + D * 53 ≤ 1000000000 := by omega
      generalize A * 131 + B * 1117 + p * 29 + D * 53 = X at *
      have g0 : 0 ≤ Int.tdiv X 64 := Int.tdiv_nonneg x0 (by omega)
      have g1 : Int.tdiv X 64 ≤ X := by
        rw [Int.tdiv_eq_ediv_of_nonneg x0]
        exact Int.ediv_le_self _ x0
      rw [wrap64_id (x := Int.tdiv X 64) (by omega) (by omega)]
      have hx := xor_nonneg (x := X) (y := Int.tdiv X 64) x0 (by omega) g0 (by omega)
      obtain ⟨t0, t1⟩ := tmod_lt' hx hn
      exact ⟨_, rfl, t0, t1⟩
theorem of_spec (k : Nat) (s : List Int) (hs : Bytes s) (hl : s.length ≤ 2000) (p : Int) (l : List ByteArray) (hp0 : 0 ≤ p) (hp : p ≤ 1000000) (h1 : 1 ≤ l.length) (h2 : l.length ≤ 1000000) :
    ∃ v, v ∈ l ∧ spec_l1Rd_of.f (k + 1) s p l = some (v, p + 1) := by
  obtain ⟨r, hr, r0, r1⟩ := pick_spec k s hs hl p (l.length : Int) hp0 hp (by omega) (by omega)
  refine ⟨rdOf ByteArray.empty l r, ?_, ?_⟩
  · unfold rdOf
    rw [List.getD_eq_getElem?_getD, List.getElem?_eq_getElem (by omega), Option.getD_some]
    exact List.getElem_mem _
  · unfold spec_l1Rd_of.f
    rw [hr]
    simp only [Option.bind_some]
    rw [if_pos r0, if_pos r1]
theorem open_spec (l : List Int) (hl : Bytes l) : ∃ s, spec_l1Open.f l = some (s, 0) ∧ Bytes s ∧ s.length ≤ 2000 := by
  unfold spec_l1Open.f
  by_cases h : (l.length : Int) > 2000
  · rw [if_pos h, if_pos (by omega)]
    exact ⟨_, rfl, fun x hx => hl x (List.mem_of_mem_take hx), by rw [List.length_take]; omega⟩
  · rw [if_neg h]
    exact ⟨_, rfl, hl, by omega⟩
/-- A list that a draw may yield. -/
def Fits (l : List ByteArray) : Prop := l.length ≤ 100
theorem many40 (k : Nat) : ∃ t, spec_l1Many.f (k + 10) (⟨#[120]⟩ : ByteArray) 40 = some t := Option.isSome_iff_exists.1 (by kernel_rfl)
theorem many41 (k : Nat) : ∃ t, spec_l1Many.f (k + 10) (⟨#[121]⟩ : ByteArray) 41 = some t := Option.isSome_iff_exists.1 (by kernel_rfl)
theorem text_spec (k : Nat) (s : List Int) (hs : Bytes s) (hl : s.length ≤ 2000) (p : Int) (hp0 : 0 ≤ p) (hp : p ≤ 1000000) : ∃ v, spec_l11Text.f (k + 10) s p = some (v, p + 1) := by
  obtain ⟨t, ht⟩ := many40 k
  unfold spec_l11Text.f
  rw [ht]
  simp only [Option.bind_some]
  obtain ⟨v, _, hv⟩ := of_spec (k + 9) s hs hl p ([(⟨#[]⟩ : ByteArray), (⟨#[97]⟩ : ByteArray), (⟨#[98]⟩ : ByteArray), (⟨#[99]⟩ : ByteArray), (⟨#[53]⟩ : ByteArray), (⟨#[45, 51]⟩ : ByteArray), (⟨#[104, 101, 108, 108, 111]⟩ : ByteArray), (⟨#[13, 10]⟩ : ByteArray), (⟨#[255]⟩ : ByteArray), t, (⟨#[57, 57, 57, 57, 57, 57, 57, 57, 57]⟩ : ByteArray)]) hp0 hp (by simp) (by simp)
  rw [hv]
  exact ⟨v, rfl⟩
theorem textsD_loop (s : List Int) (hs : Bytes s) (hl : s.length ≤ 2000) : ∀ (n : Nat) (k : Nat) (acc : List ByteArray) (p : Int), n ≤ 10 → acc.length + n ≤ 20 → 0 ≤ p → p + n ≤ 1000 → ∃ r, spec_l11Texts.l0 (k + 12 + n) acc (n : Int) s p = some (r, p + n) ∧ r.length ≤ 20
  | 0, k, acc, p, h, ha, p0, p1 => by
    refine ⟨acc, ?_, by omega⟩
    show spec_l11Texts.l0 (k + 11 + 1) acc 0 s p = _
    unfold spec_l11Texts.l0
    rw [if_neg (by omega)]
    simp
  | n + 1, k, acc, p, h, ha, p0, p1 => by
    show ∃ r, spec_l11Texts.l0 (k + 12 + n + 1) acc ((n + 1 : Nat) : Int) s p = some (r, p + ((n + 1 : Nat) : Int)) ∧ r.length ≤ 20
    obtain ⟨v, hv⟩ := text_spec (k + 2 + n) s hs hl p p0 (by omega)
    rw [show k + 2 + n + 10 = k + 12 + n by omega] at hv
    obtain ⟨r, hr, hrl⟩ := textsD_loop s hs hl n k (acc ++ [v]) (p + 1) (by omega) (by simp; omega) (by omega) (by omega)
    refine ⟨r, ?_, hrl⟩
    unfold spec_l11Texts.l0
    rw [if_pos (by omega), hv]
    simp only [Option.bind_some]
    rw [if_pos (by omega), wrap64_id (by omega) (by omega), show ((n + 1 : Nat) : Int) - 1 = (n : Int) by omega, hr]
    congr 2
    omega
theorem textsD_f (k : Nat) (s : List Int) (hs : Bytes s) (hl : s.length ≤ 2000) (p : Int) (hp0 : 0 ≤ p) (hp : p ≤ 100) : ∃ r q, spec_l11Texts.f (k + 40) s p 6 = some (r, q) ∧ r.length ≤ 20 ∧ 0 ≤ q ∧ q ≤ p + 10 := by
  unfold spec_l11Texts.f
  have e : wrap64 (6 + 1) = 7 := by unfold wrap64; omega
  rw [e]
  obtain ⟨r, hr, r0, r1⟩ := pick_spec (k + 39) s hs hl p 7 hp0 (by omega) (by omega) (by omega)
  rw [hr]
  simp only [Option.bind_some]
  obtain ⟨n, rfl⟩ := Int.eq_ofNat_of_zero_le r0
  obtain ⟨t, ht, htl⟩ := textsD_loop s hs hl n (k + 28 - n) [] (p + 1) (by omega) (by simp; omega) (by omega) (by omega)
  rw [show k + 28 - n + 12 + n = k + 40 by omega] at ht
  exact ⟨t, _, ht, htl, by omega, by omega⟩
theorem dec_some (k : Nat) (n : Int) (h0 : 0 ≤ n) (h1 : n < 100) : ∃ t, spec_l1Dec.f (k + 3) n = some t ∧ t.size ≤ 10 := by
  have hs : ∀ x : Int, (strOfNums ([x] : List Int)).size = 1 := fun x => by simp [strOfNums]; rfl
  have d1 : ∀ (k : Nat) (n : Int), 0 ≤ n → n < 10 → ∃ t, spec_l1Dec.f (k + 1) n = some t ∧ t.size ≤ 1 := by
    intro k n h0 h1
    unfold spec_l1Dec.f
    rw [if_neg (by omega), if_neg (by omega), if_pos h1]
    exact ⟨_, rfl, by rw [hs]; omega⟩
  by_cases h : n < 10
  · obtain ⟨t, ht, hl⟩ := d1 (k + 2) n h0 h
    exact ⟨t, ht, by omega⟩
  · have e : wrap64 (Int.tdiv n 10) = Int.tdiv n 10 ∧ 0 ≤ Int.tdiv n 10 ∧ Int.tdiv n 10 < 10 := by
      rw [Int.tdiv_eq_ediv_of_nonneg h0]
      exact ⟨wrap64_id (by omega) (by omega), by omega, by omega⟩
    obtain ⟨t, ht, hl⟩ := d1 (k + 1) (Int.tdiv n 10) e.2.1 e.2.2
    refine ⟨t ++ strOfNums ([(wrap64 (48 + (Int.tmod n 10))) % 256] : List Int), ?_, by rw [ByteArray.size_append, hs]; omega⟩
    unfold spec_l1Dec.f
    rw [if_neg (by omega), if_neg (by omega), if_neg h, e.1, ht]
    simp only [Option.bind_some]
    rw [if_pos (by rw [hs]; omega)]
theorem any_loop (s : List Int) (hs : Bytes s) (hl : s.length ≤ 2000) : ∀ (n : Nat) (k : Nat) (acc : List ByteArray) (p : Int), acc.length + n = 40 → 0 ≤ p → p + n ≤ 1000 → ∃ r q, spec_l11AnyTexts.l0 (k + 5 + n) acc s p = some (r, q) ∧ r.length ≤ 60 ∧ 0 ≤ q ∧ q ≤ p + n + 1
  | n, k, acc, p, h, p0, p1 => by
    obtain ⟨r, hr, r0, r1⟩ := pick_spec (k + 3 + n) s hs hl p 2 p0 (by omega) (by omega) (by omega)
    rw [show k + 3 + n + 1 = k + 4 + n by omega] at hr
    rw [show k + 5 + n = k + 4 + n + 1 by omega]
    unfold spec_l11AnyTexts.l0
    rw [hr]
    simp only [Option.bind_some]
    rw [wrap64_id (by omega) (by omega)]
    by_cases hlt : (acc.length : Int) < 16 + r
    · obtain ⟨n, rfl⟩ : ∃ m, n = m + 1 := ⟨n - 1, by omega⟩
      obtain ⟨t, ht, htl⟩ := dec_some (k + 2 + n) (acc.length : Int) (by omega) (by omega)
      rw [show k + 2 + n + 3 = k + 4 + (n + 1) by omega] at ht
      obtain ⟨r2, q, hr2, hl2, q0, q1⟩ := any_loop s hs hl n k (acc ++ [(⟨#[110]⟩ : ByteArray) ++ t]) (p + 1) (by simp; omega) (by omega) (by omega)
      rw [show k + 5 + n = k + 4 + (n + 1) by omega] at hr2
      rw [if_pos hlt, ht]
      simp only [Option.bind_some]
      rw [if_pos (by omega), if_pos (by omega)]
      exact ⟨r2, q, hr2, hl2, q0, by omega⟩
    · rw [if_neg hlt]
      exact ⟨acc, _, rfl, by omega, by omega, by omega⟩
theorem any_f (k : Nat) (s : List Int) (hs : Bytes s) (hl : s.length ≤ 2000) (p : Int) (hp0 : 0 ≤ p) (hp : p ≤ 10) : ∃ r q, spec_l11AnyTexts.f (k + 100) s p = some (r, q) ∧ r.length ≤ 60 ∧ 0 ≤ q ∧ q ≤ 200 := by
  unfold spec_l11AnyTexts.f
  obtain ⟨t, q, ht, htl, q0, q1⟩ := textsD_f (k + 60) s hs hl p hp0 (by omega)
  rw [ht]
  simp only [Option.bind_some]
  obtain ⟨r, hr, r0, r1⟩ := pick_spec (k + 99) s hs hl q 16 q0 (by omega) (by omega) (by omega)
  rw [hr]
  simp only [Option.bind_some]
  by_cases h0 : r = 0
  · rw [if_pos h0]
    obtain ⟨u, hu⟩ := many41 (k + 90)
    rw [hu]
    simp only [Option.bind_some]
    rw [if_pos (by omega)]
    exact ⟨_, _, rfl, by simp; omega, by omega, by omega⟩
  · rw [if_neg h0]
    by_cases h1 : r = 1
    · rw [if_pos h1]
      obtain ⟨x, y, hx, hxl, y0, y1⟩ := any_loop s hs hl (40 - t.length) (k + 95 - (40 - t.length)) t (q + 1) (by omega) (by omega) (by omega)
      rw [show k + 95 - (40 - t.length) + 5 + (40 - t.length) = k + 100 by omega] at hx
      exact ⟨x, y, hx, hxl, y0, by omega⟩
    · rw [if_neg h1]
      exact ⟨_, _, rfl, by omega, by omega, by omega⟩
theorem drawJ (k : Nat) (l : List ByteArray) (s : List Int) (hs : Bytes s) (hl : s.length ≤ 2000) (p : Int) (hp0 : 0 ≤ p) (hp : p ≤ 1000) :
    ∃ a b, ((spec_l1Rd_pick.f (k + 1) s p 2).bind fun bt259 => ((spec_l1Rd_pick.f (k + 1) s bt259.2 2).bind fun bt261 => (some (l, (bt259.1 == 0), (bt261.1 == 0))))) = some (l, a, b) := by
  obtain ⟨r, hr, _, _⟩ := pick_spec k s hs hl p 2 hp0 (by omega) (by omega) (by omega)
  obtain ⟨r2, hr2, _, _⟩ := pick_spec k s hs hl (p + 1) 2 (by omega) (by omega) (by omega) (by omega)
  rw [hr]
  simp only [Option.bind_some]
  rw [hr2]
  exact ⟨_, _, rfl⟩
theorem draw_loop (s : List Int) (hs : Bytes s) (hl : s.length ≤ 2000) : ∀ (n : Nat) (k : Nat) (acc : List ByteArray) (p : Int), n ≤ 10 → acc.length + n ≤ 20 → 0 ≤ p → p + n ≤ 900 → ∃ r a b, spec_DrawListSort.l0 (k + 3 + n) acc (n : Int) s p = some (r, a, b) ∧ r.length ≤ 20
  | 0, k, acc, p, h, ha, p0, p1 => by
    obtain ⟨a, b, hj⟩ := drawJ (k + 1) acc s hs hl p p0 (by omega)
    refine ⟨acc, a, b, ?_, by omega⟩
    show spec_DrawListSort.l0 (k + 2 + 1) acc 0 s p = _
    unfold spec_DrawListSort.l0
    rw [if_neg (by omega)]
    exact hj
  | n + 1, k, acc, p, h, ha, p0, p1 => by
    show ∃ r a b, spec_DrawListSort.l0 (k + 3 + n + 1) acc ((n + 1 : Nat) : Int) s p = some (r, a, b) ∧ r.length ≤ 20
    obtain ⟨v, _, hv⟩ := of_spec (k + 2 + n) s hs hl p ([(⟨#[49]⟩ : ByteArray), (⟨#[50]⟩ : ByteArray), (⟨#[49, 48]⟩ : ByteArray), (⟨#[45, 51]⟩ : ByteArray), (⟨#[48]⟩ : ByteArray), (⟨#[49, 48, 48]⟩ : ByteArray), (⟨#[50]⟩ : ByteArray)]) p0 (by omega) (by simp) (by simp)
    rw [show k + 2 + n + 1 = k + 3 + n by omega] at hv
    obtain ⟨r, a, b, hr, hrl⟩ := draw_loop s hs hl n k (acc ++ [v]) (p + 1) (by omega) (by simp; omega) (by omega) (by omega)
    refine ⟨r, a, b, ?_, hrl⟩
    unfold spec_DrawListSort.l0
    rw [if_pos (by omega), hv]
    simp only [Option.bind_some]
    rw [if_pos (by omega), wrap64_id (by omega) (by omega), show ((n + 1 : Nat) : Int) - 1 = (n : Int) by omega, hr]
theorem draw_f (k : Nat) (l : List Int) (hl : Bytes l) : ∃ r a b, spec_DrawListSort.f (k + 100) l = some (r, a, b) ∧ r.length ≤ 60 := by
  obtain ⟨s, e, hs, hn⟩ := open_spec l hl
  unfold spec_DrawListSort.f
  rw [e]
  simp only [Option.bind_some]
  obtain ⟨t, q, ht, htl, q0, q1⟩ := any_f k s hs hn 0 (by omega) (by omega)
  rw [ht]
  simp only [Option.bind_some]
  obtain ⟨r, hr, r0, r1⟩ := pick_spec (k + 99) s hs hn q 2 q0 (by omega) (by omega) (by omega)
  rw [hr]
  simp only [Option.bind_some]
  by_cases h0 : r = 0
  · rw [if_pos h0]
    obtain ⟨m, hm, m0, m1⟩ := pick_spec (k + 99) s hs hn (q + 1) 7 (by omega) (by omega) (by omega) (by omega)
    rw [hm]
    simp only [Option.bind_some]
    obtain ⟨n, rfl⟩ := Int.eq_ofNat_of_zero_le m0
    obtain ⟨x, a, b, hx, hxl⟩ := draw_loop s hs hn n (k + 97 - n) [] (q + 1 + 1) (by omega) (by simp; omega) (by omega) (by omega)
    rw [show k + 97 - n + 3 + n = k + 100 by omega] at hx
    exact ⟨x, a, b, hx, by omega⟩
  · rw [if_neg h0]
    obtain ⟨a, b, hj⟩ := drawJ (k + 99) t s hs hn (q + 1) (by omega) (by omega)
    exact ⟨t, a, b, hj, htl⟩

end Go.Proofs.YtkgomifdmpkaeaaDoor.PLsb
