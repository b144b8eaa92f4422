/- What the variables of Go's library hold that the calls read (the powers of ten, the two errors of strconv, the longest needle), and that no call of this program turns them; and the contracts of strconv.Itoa, strconv.Atoi and strings.Cut over that. -/
import Derived.Test.YtkgomifdmpkaeaaDoorShelf
import Derived.Below
import Derived.Lib.LaidTab
import Derived.WalkKit
import Derived.KernelRfl
import Derived.RowKit3
namespace Go.Proofs.YtkgomifdmpkaeaaDoor
open Go.RowKit

theorem gPow : Tryd.prog.globalNamed "internal/strconv.uint64pow10" = some 3 := by kernel_rfl
theorem gSyn : Tryd.prog.globalNamed "strconv.ErrSyntax" = some 1 := by kernel_rfl
theorem gRng : Tryd.prog.globalNamed "strconv.ErrRange" = some 2 := by kernel_rfl

structure Glob (w : World) : Prop where
  tab : Lib.TabIs Tryd.prog w "internal/strconv.uint64pow10" .u64 Lib.pow10Tab
  syn : ∃ tp p, w.var? Tryd.prog "strconv.ErrSyntax" = some #[.iface tp p]
  rng : ∃ tp p, w.var? Tryd.prog "strconv.ErrRange" = some #[.iface tp p]
  mx : ∃ m, w.cell? ⟨0, 0, none⟩ = some (.int .i64 m)

theorem varBelow {P : Program} {B g : Nat} {W W' : World} {n : String} {cs : Array Value} (h : Below B W W') (hg : P.globalNamed n = some g) (hgB : g < B) (hv : W.var? P n = some cs) : W'.var? P n = some cs := by
  unfold World.var? at hv ⊢
  simp only [hg, Option.bind_some] at hv ⊢
  rw [h.block g hgB]
  exact hv

theorem varLt {P : Program} {g : Nat} {W : World} {n : String} {cs : Array Value} (hg : P.globalNamed n = some g) (hv : W.var? P n = some cs) : g < W.heap.size := by
  unfold World.var? at hv
  simp only [hg, Option.bind_some] at hv
  cases h : W.heap[g]? with
  | none => rw [h] at hv; simp at hv
  | some o => exact (Array.getElem?_eq_some_iff.1 h).1
theorem Glob.below {w w' : World} (h : Glob w) (hb : Below w.heap.size w w') : Glob w' := by
  obtain ⟨h2, ⟨a, b, h3⟩, ⟨c, d, h4⟩, ⟨m, h5⟩⟩ := h
  have hs := varLt gPow h2
  exact ⟨varBelow hb gPow hs h2, ⟨a, b, varBelow hb gSyn (by omega) h3⟩, ⟨c, d, varBelow hb gRng (by omega) h4⟩, ⟨m, (hb.cell (p := ⟨0, 0, none⟩) (by show 0 < w.heap.size; omega)).trans h5⟩⟩

theorem below_drewN' (w : World) (n : Nat) : Below w.heap.size w (w.drewN n) := by
  induction n with
  | zero => exact Below.refl _ _
  | succ n ih => rw [← World.drew_drewN]; exact ih.drew
theorem below_grow' (w : World) (os : Array Obj) : Below w.heap.size w (Sort.grow w os) :=
  ⟨rfl, rfl, rfl, by simp, fun k hk => by simp [Sort.grow, Array.getElem?_append_left hk]⟩

theorem blk_new (w : World) (o : Obj) : (w.alloc o).heap[w.heap.size]? = some o := by
  show (w.heap.push o)[w.heap.size]? = some o
  exact Array.getElem?_push_size

/-- strconv.Itoa. -/
theorem itoa_calls (n : Int) (h0 : -9223372036854775808 ≤ n) (h1 : n ≤ 9223372036854775807) (w : World) (hG : Glob w) :
    Calls Tryd.prog 50 #[.int .i64 n] w fun e w' => e = .returned (.string ⟨(Lib.itoa n).toArray⟩) ∧ Below w.heap.size w w' := by
  refine (Tryd.strconv_Itoa n h0 h1 w hG.tab).mono ?_
  rintro e w' ⟨rfl, k, os, rfl⟩
  refine ⟨rfl, ?_⟩
  have h := below_grow' (w.drewN k) os
  exact (below_drewN' w k).trans (h.mono (below_drewN' w k).size)

/-- strings.Cut. -/
theorem cut_calls (s sep : ByteArray) (hs : s.size < 4294967281) (w : World) (hG : Glob w) :
    Calls Tryd.prog 28 #[.string s, .string sep] w fun e w' => e = .returned (.tuple #[.string ⟨(Lib.cut s.data.toList sep.data.toList).1.toArray⟩, .string ⟨(Lib.cut s.data.toList sep.data.toList).2.1.toArray⟩, .bool (Lib.cut s.data.toList sep.data.toList).2.2]) ∧ Below w.heap.size w w' := by
  obtain ⟨m, hm⟩ := hG.mx
  refine (Tryd.strings_Cut s sep m w hs hm).mono ?_
  rintro e w' ⟨rfl, n, rfl⟩
  exact ⟨rfl, below_drewN' w n⟩

/-- What strconv.Atoi gives as the number, and whether it gives no error. -/
def atoiV (s : ByteArray) : Int := match Lib.atoiAll s.data.toList with
  | .ok v => v
  | .range => Lib.atoiSat s.data.toList
  | _ => 0
def atoiB (s : ByteArray) : Bool := match Lib.atoiAll s.data.toList with
  | .ok _ => true
  | _ => false
def AtoiEnd (s : ByteArray) (e : Ending) : Prop := (atoiB s = true ∧ e = .returned (.tuple #[.int .i64 (atoiV s), .nilIface])) ∨ (atoiB s = false ∧ ∃ t p, e = .returned (.tuple #[.int .i64 (atoiV s), .iface t (.pointer (some p))]))
theorem atoi_calls (s : ByteArray) (hs : s.size ≤ 281474976710656) (w : World) (hG : Glob w) :
    Calls Tryd.prog 29 #[.string s] w fun e w' => AtoiEnd s e ∧ Below w.heap.size w w' := by
  rcases h : Lib.atoiAll s.data.toList with v | _ | _
  · refine (Tryd.strconv_Atoi_ok s (by omega) v h w).mono ?_
    rintro e w' ⟨rfl, hw⟩
    refine ⟨.inl ⟨by simp [atoiB, h], by simp [atoiV, h]⟩, ?_⟩
    rcases hw with rfl | ⟨t, rfl⟩
    · exact Below.refl _ _
    · exact Lib.bytesWorld_below w 5 t
  · obtain ⟨tp, p, hv⟩ := hG.syn
    refine (Any.strconv_Atoi_syntax_var Tryd.laysC172 s hs h tp p w hv).mono ?_
    rintro e w' ⟨N, rfl, _, _, hb⟩
    exact ⟨.inr ⟨by simp [atoiB, h], 82, ⟨N, 0, none⟩, by simp [atoiV, h]; rfl⟩, hb⟩
  · obtain ⟨tp, p, hv⟩ := hG.rng
    refine (Tryd.strconv_Atoi_range_var s hs h tp p w hv).mono ?_
    rintro e w' ⟨N, rfl, _, _, hb⟩
    exact ⟨.inr ⟨by simp [atoiB, h], 82, ⟨N, 0, none⟩, by simp [atoiV, h]⟩, hb⟩

/-- A number that an int holds. -/
def i64In (n : Int) : Bool := decide (-9223372036854775808 ≤ n) && decide (n ≤ 9223372036854775807)
theorem i64In_lo {n : Int} (h : i64In n = true) : -9223372036854775808 ≤ n := by simp [i64In] at h; exact h.1
theorem i64In_hi {n : Int} (h : i64In n = true) : n ≤ 9223372036854775807 := by simp [i64In] at h; exact h.2
/-- What stands ahead of the first dash, and behind it. -/
def cutA (s : ByteArray) : ByteArray := ⟨(Lib.cut s.data.toList (⟨#[45]⟩ : ByteArray).data.toList).1.toArray⟩
def cutB (s : ByteArray) : ByteArray := ⟨(Lib.cut s.data.toList (⟨#[45]⟩ : ByteArray).data.toList).2.1.toArray⟩
def cutF (s : ByteArray) : Bool := (Lib.cut s.data.toList (⟨#[45]⟩ : ByteArray).data.toList).2.2
theorem cut1_le (l sep : List UInt8) : (Lib.cut l sep).1.length ≤ l.length := by
  unfold Lib.cut
  split
  · exact List.length_take_le' _ _
  · exact Nat.le_refl _
theorem cut2_le (l sep : List UInt8) : (Lib.cut l sep).2.1.length ≤ l.length := by
  unfold Lib.cut
  split
  · exact Nat.le_trans (Nat.le_of_eq List.length_drop) (Nat.sub_le _ _)
  · exact Nat.zero_le _
theorem cutA_le (s : ByteArray) : (cutA s).size ≤ s.size := by
  show (Lib.cut _ _).1.toArray.size ≤ s.data.size
  rw [List.size_toArray, ← Array.length_toList]
  exact cut1_le _ _
theorem cutB_le (s : ByteArray) : (cutB s).size ≤ s.size := by
  show (Lib.cut _ _).2.1.toArray.size ≤ s.data.size
  rw [List.size_toArray, ← Array.length_toList]
  exact cut2_le _ _
theorem cutd_calls (s : ByteArray) (hs : s.size < 4294967281) (w : World) (hG : Glob w) :
    Calls Tryd.prog 28 #[.string s, .string ⟨#[45]⟩] w fun e w' => e = .returned (.tuple #[.string (cutA s), .string (cutB s), .bool (cutF s)]) ∧ Below w.heap.size w w' :=
  cut_calls s ⟨#[45]⟩ hs w hG
theorem atoi_any (s : ByteArray) (hs : s.size ≤ 281474976710656) (w : World) (hG : Glob w) :
    Calls Tryd.prog 29 #[.string s] w fun e w' => (∃ ev, e = .returned (.tuple #[.int .i64 (atoiV s), ev])) ∧ Below w.heap.size w w' := by
  refine (atoi_calls s hs w hG).mono ?_
  rintro e w' ⟨hE, hb⟩
  refine ⟨?_, hb⟩
  rcases hE with ⟨_, rfl⟩ | ⟨_, t, p, rfl⟩
  · exact ⟨_, rfl⟩
  · exact ⟨_, rfl⟩
end Go.Proofs.YtkgomifdmpkaeaaDoor
