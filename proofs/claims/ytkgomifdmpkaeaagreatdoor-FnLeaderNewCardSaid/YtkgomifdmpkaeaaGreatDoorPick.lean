/- The reader of codes draws a number below the bound that it is asked for. -/
import Derived.Test.YtkgomifdmpkaeaaGreatDoorLdn1
import Derived.Laws.BitsAllLaws
namespace Go.Proofs.YtkgomifdmpkaeaaGreatDoor.Pure
open Go.RowKit Go.Proofs.YtkgomifdmpkaeaaGreatDoor.Ldn Go.Proofs.YtkgomifdmpkaeaaGreatDoorW.PrintWords Go.Proofs.YtkgomifdmpkaeaaGreatDoorW.PrintLast

theorem wrap64_id {x : Int} (h0 : -9223372036854775808 ≤ x) (h1 : x ≤ 9223372036854775807) : wrap64 x = x := by
  unfold wrap64; omega
theorem i64_xor_nat (a b : Nat) (ha : a < 4611686018427387904) (hb : b < 4611686018427387904) : bits .xor .i64 (a : Int) (b : Int) = ((a ^^^ b : Nat) : Int) ∧ a ^^^ b < 4611686018427387904 := by
  have hx : a ^^^ b < 2 ^ 62 := Nat.xor_lt_two_pow (by omega) (by omega)
  have h1 : (BitVec.ofInt 64 (a : Int)).toNat = a := by
    rw [BitVec.ofInt_natCast, BitVec.toNat_ofNat]; exact Nat.mod_eq_of_lt (by omega)
  have h2 : (BitVec.ofInt 64 (b : Int)).toNat = b := by
    rw [BitVec.ofInt_natCast, BitVec.toNat_ofNat]; exact Nat.mod_eq_of_lt (by omega)
  refine ⟨?_, by omega⟩
  show IntKind.i64.wrap ((BitVec.ofInt 64 (a : Int) ^^^ BitVec.ofInt 64 (b : Int)).toNat : Int) = _
  rw [BitVec.toNat_xor, h1, h2]
  simp [IntKind.wrap, IntKind.bits, IntKind.signed]
  omega
theorem xor_nonneg {x y : Int} (hx : 0 ≤ x) (hx1 : x < 4611686018427387904) (hy : 0 ≤ y) (hy1 : y < 4611686018427387904) : 0 ≤ bits .xor .i64 x y := by
  obtain ⟨a, rfl⟩ := Int.eq_ofNat_of_zero_le hx
  obtain ⟨b, rfl⟩ := Int.eq_ofNat_of_zero_le hy
  rw [(i64_xor_nat a b (by omega) (by omega)).1]
  omega
/-- A list of bytes, as numbers. -/
def Bytes (s : List Int) : Prop := ∀ x ∈ s, 0 ≤ x ∧ x ≤ 255
theorem rd_byte {s : List Int} (h : Bytes s) (i : Int) : 0 ≤ rd s i ∧ rd s i ≤ 255 := by
  unfold rd
  rw [List.getD_eq_getElem?_getD]
  cases e : s[i.toNat]? with
  | none => simp
  | some x => simpa using h x (List.mem_of_getElem? e)
theorem tmod_lt' {x n : Int} (h0 : 0 ≤ x) (hn : 1 ≤ n) : 0 ≤ Int.tmod x n ∧ Int.tmod x n < n := ⟨Int.tmod_nonneg _ h0, Int.tmod_lt_of_pos _ (by omega)⟩

theorem pick_spec (k : Nat) (s : List Int) (hs : Bytes s) (hl : s.length ≤ 2000) (p n : Int) (hp0 : 0 ≤ p) (hp : p ≤ 1000000) (hn : 1 ≤ n) (hn1 : n ≤ 1000000) :
    ∃ r, spec_l1Rd_pick.f (k + 1) s p n = some (r, p + 1) ∧ 0 ≤ r ∧ r < n := by
  have e0 : wrap64 (p + 1) = p + 1 := wrap64_id (by omega) (by omega)
  have e1 : wrap64 (p + 1 - 1) = p := by rw [wrap64_id (by omega) (by omega)]; omega
  unfold spec_l1Rd_pick.f
  rw [if_neg (by omega), e0]
  simp only [spec_l1Rd_pick.j0, e1]
  by_cases hz : s = []
  · subst hz
    exact ⟨0, by simp, by omega, by omega⟩
  · have hlen : 0 < s.length := List.length_pos_iff.2 hz
    have hne : ((s.length : Int) == 0) = false := by simpa using hz
    rw [if_neg (by simp [hz])]
    by_cases hlt : p < (s.length : Int)
    · rw [if_pos hlt, if_pos hp0, if_neg (by omega)]
      obtain ⟨b0, b1⟩ := rd_byte hs p
      rw [wrap64_id (by omega) (by omega)]
      obtain ⟨t0, t1⟩ := tmod_lt' b0 hn
      exact ⟨_, rfl, t0, t1⟩
    · rw [if_neg hlt, if_neg (by omega)]
      have e2 : wrap64 (p * 7) = p * 7 := wrap64_id (by omega) (by omega)
      have e3 : wrap64 (p * 7 + 3) = p * 7 + 3 := wrap64_id (by omega) (by omega)
      simp only [e2, e3]
      obtain ⟨m0, m1⟩ := tmod_lt' (x := p) (n := (s.length : Int)) hp0 (by omega)
      obtain ⟨m2, m3⟩ := tmod_lt' (x := p * 7 + 3) (n := (s.length : Int)) (by omega) (by omega)
      rw [if_pos m0, if_pos m1, if_pos m2, if_pos m3, if_neg (by omega)]
      obtain ⟨a0, a1⟩ := rd_byte hs (Int.tmod p (s.length : Int))
      obtain ⟨b0, b1⟩ := rd_byte hs (Int.tmod (p * 7 + 3) (s.length : Int))
      generalize rd s (Int.tmod p (s.length : Int)) = A at *
      generalize rd s (Int.tmod (p * 7 + 3) (s.length : Int)) = B at *
      have d0 : 0 ≤ Int.tdiv p (s.length : Int) := Int.tdiv_nonneg hp0 (by omega)
      have d1 : Int.tdiv p (s.length : Int) ≤ p := by
        rw [Int.tdiv_eq_ediv_of_nonneg hp0]
        exact Int.ediv_le_self _ hp0
      generalize Int.tdiv p (s.length : Int) = D at *
      have f1 : wrap64 A = A := wrap64_id (by omega) (by omega)
      have f2 : wrap64 (A * 131) = A * 131 := wrap64_id (by omega) (by omega)
      have f3 : wrap64 B = B := wrap64_id (by omega) (by omega)
      have f4 : wrap64 (B * 1117) = B * 1117 := wrap64_id (by omega) (by omega)
      have f5 : wrap64 (A * 131 + B * 1117) = A * 131 + B * 1117 := wrap64_id (by omega) (by omega)
      have f6 : wrap64 (p * 29) = p * 29 := wrap64_id (by omega) (by omega)
      have f7 : wrap64 (A * 131 + B * 1117 + p * 29) = A * 131 + B * 1117 + p * 29 := wrap64_id (by omega) (by omega)
      have f8 : wrap64 D = D := wrap64_id (by omega) (by omega)
      have f9 : wrap64 (D * 53) = D * 53 := wrap64_id (by omega) (by omega)
      have f10 : wrap64 (A * 131 + B * 1117 + p * 29 + D * 53) = A * 131 + B * 1117 + p * 29 + D * 53 := wrap64_id (by omega) (by omega)
      simp only [f1, f2, f3, f4, f5, f6, f7, f8, f9, f10]
      have x0 : 0 ≤ A * 131 + B * 1117 + p * 29 + D * 53 := by omega
      have x1 : A * 131 + B * 1117 + p * 29 + D * 53 ≤ 1000000000 := by omega
      generalize A * 131 + B * 1117 + p * 29 + D * 53 = X at *
      have g0 : 0 ≤ Int.tdiv X 64 := Int.tdiv_nonneg x0 (by omega)
      have g1 : Int.tdiv X 64 ≤ X := by
        rw [Int.tdiv_eq_ediv_of_nonneg x0]
        exact Int.ediv_le_self _ x0
      rw [wrap64_id (x := Int.tdiv X 64) (by omega) (by omega)]
      have hx := xor_nonneg (x := X) (y := Int.tdiv X 64) x0 (by omega) g0 (by omega)
      obtain ⟨t0, t1⟩ := tmod_lt' hx hn
      exact ⟨_, rfl, t0, t1⟩
end Go.Proofs.YtkgomifdmpkaeaaGreatDoor.Pure
