/- Files: measured, copied, compared. -/
import Derived.Test.YtndiofhinlogmaaPairs
import Derived.Deep.QuietTactic
import Derived.BigQuiet
import Derived.IntWalk
import Derived.Deep.RegionWith
import Derived.Shelf.SlSortCmp.QuietGrown
namespace Go.Proofs.Ytndiofhinlogmaa
open Go.RowKit
abbrev Fil := ByteArray × ByteArray
def fval (s : Fil) : Value × Value := (.string s.1, .string s.2)
def fvals (l : List Fil) : List (Value × Value) := l.map fval
theorem fvals_length (l : List Fil) : (fvals l).length = l.length := by simp [fvals]
theorem fvals_get {l : List Fil} {k : Nat} {s : Fil} (h : l[k]? = some s) : (fvals l)[k]? = some (.string s.1, .string s.2) := by simp [fvals, h, fval]
theorem fvals_append (l m : List Fil) : fvals (l ++ m) = fvals l ++ fvals m := by simp [fvals]
theorem fvals_take (l : List Fil) (k : Nat) : fvals (l.take k) = (fvals l).take k := by simp [fvals, List.map_take]
theorem fvals_drop (l : List Fil) (k : Nat) : fvals (l.drop k) = (fvals l).drop k := by simp [fvals, List.map_drop]
theorem fvals_ones : ∀ l : List Fil, Ones (fvals l)
  | [], u, h => by simp [fvals, flat] at h
  | s :: l, u, h => by
    rw [show fvals (s :: l) = fval s :: fvals l from rfl, flat_cons] at h
    rcases List.mem_cons.1 h with rfl | h
    · rfl
    · rcases List.mem_cons.1 h with rfl | h
      · rfl
      · exact fvals_ones l u h
theorem toList_injF {x y : ByteArray} (h : x.toList = y.toList) : x = y := by
  rw [ByteArray.toList_eq, ByteArray.toList_eq] at h
  exact ByteArray.ext (Array.toList_inj.1 h)
theorem tk_snoc {α : Type} {l m : List α} {k : Nat} {x : α} (h : l.take k = m.take k) (h1 : l[k]? = some x) (h2 : m[k]? = some x) : l.take (k + 1) = m.take (k + 1) := by
  rw [List.take_add_one, List.take_add_one, h, h1, h2]
theorem mixedO : Try.prog.follows .mixedOrders = true := by kernel_rfl
theorem below_grow {B : Nat} {w w' : World} (h : Below B w w') (hB : B ≤ w'.heap.size) (n : Nat) (os : Array Obj) : Below B w (Sort.grow (w'.drewN n) os) :=
  ⟨h.os, h.tape, h.output, Nat.le_trans h.size (by simp), fun i hi => (Sort.heap_grow_old (w'.drewN n) os (show i < w'.heap.size by omega)).trans (h.block i hi)⟩
theorem quiet_box {f : FuncId} {args : Array Value} {o : Obj} {v : Value} (h : ∀ w : World, Calls Try.prog f args w fun e w' => e = .returned v ∧ w' = w.alloc o) (w : World) (n : Nat) (os : Array Obj) :
    Calls Try.prog f args (Sort.grow (w.drewN n) os) fun e w'' => e = .returned v ∧ ∃ p : GrownBy, w'' = Sort.grow (w.drewN p.n) p.os :=
  Calls.grown_of ((h _).mono fun _ _ ⟨he, hw⟩ => ⟨he, 0, #[o], by rw [hw, Sort.alloc_eq_grow]; rfl⟩)
def fsum : List Fil → Nat
  | [] => 0
  | s :: l => s.1.size + s.2.size + fsum l
theorem fsum_snoc : ∀ {l : List Fil} {k : Nat} {s : Fil}, l[k]? = some s → fsum (l.take (k + 1)) = fsum (l.take k) + (s.1.size + s.2.size)
  | t :: l, 0, s, h => by
    injection h with h
    subst h
    simp [fsum]
  | t :: l, k + 1, s, h => by
    have h2 := fsum_snoc (l := l) (k := k) (s := s) (by simpa using h)
    simp only [List.take_succ_cons, fsum]
    omega
theorem fsum_mem : ∀ {l : List Fil} {s : Fil}, s ∈ l → s.1.size + s.2.size ≤ fsum l
  | t :: l, s, h => by
    rcases List.mem_cons.1 h with rfl | h
    · simp only [fsum]; omega
    · have := fsum_mem h
      simp only [fsum]; omega
def FilesIn (w : World) (v : Value) (l : List Fil) : Prop := Lp w w.heap.size v (fvals l) ∧ l.length ≤ maxLen ∧ ∀ s ∈ l, s.1.size ≤ maxLen ∧ s.2.size ≤ maxLen
theorem infoFile : (Try.prog.info? 38).map (fun i => (i.zero, i.size, i.bytes)) = some (some (.agg #[.string ByteArray.empty, .string ByteArray.empty]), 2, 32) := by kernel_rfl
theorem infoFile_parts : ∃ i0, Try.prog.info? 38 = some i0 ∧ i0.zero = some (.agg #[.string ByteArray.empty, .string ByteArray.empty]) ∧ i0.size = 2 ∧ i0.bytes = 32 := by
  obtain ⟨i0, hi, hzz⟩ := Option.map_eq_some_iff.1 infoFile
  simp only [Prod.mk.injEq] at hzz
  exact ⟨i0, hi, hzz⟩
section
set_option maxHeartbeats 1600000
theorem szFile_any (a b : ByteArray) (z : Nat) (hz : z ≤ 1048576) (ha : a.size ≤ maxLen) (hb : b.size ≤ maxLen) (w : World) : Calls Try.prog 28 #[.agg #[.string a, .string b], .int .i64 (z : Int)] w fun e w' =>
    e = .returned (.int .i64 (if a.size + b.size ≤ z then ((z - (a.size + b.size) : Nat) : Int) else -1)) ∧ w' = w.alloc (.cells #[.string a, .string b] 52) := by
  unfold maxLen at ha hb
  by_cases h1 : a.size ≤ z
  · have q1 : 0 ≤ (z : Int) - (a.size : Int) := by omega
    have q2 : (z : Int) - (a.size : Int) ≤ 1048576 := by omega
    by_cases h2 : a.size + b.size ≤ z
    · rw [if_pos h2]
      have q3 : 0 ≤ (z : Int) - (a.size : Int) - (b.size : Int) := by omega
      have q4 : (z : Int) - (a.size : Int) - (b.size : Int) ≤ 1048576 := by omega
      go_enter Try.func28, Try.ntmps28
      go_wp2
      go_ret
      exact ⟨ret_int (by omega), rfl⟩
    · rw [if_neg h2]
      have q3 : (z : Int) - (a.size : Int) - (b.size : Int) < 0 := by omega
      have q4 : -9223372036854775808 ≤ (z : Int) - (a.size : Int) - (b.size : Int) := by omega
      go_enter Try.func28, Try.ntmps28
      go_wp2
      go_ret
      exact ⟨rfl, rfl⟩
  · rw [if_neg (by omega)]
    have q1 : (z : Int) - (a.size : Int) < 0 := by omega
    have q2 : -9223372036854775808 ≤ (z : Int) - (a.size : Int) := by omega
    go_enter Try.func28, Try.ntmps28
    go_wp2
    go_ret
    exact ⟨rfl, rfl⟩
theorem toFile_any (a b : ByteArray) (w : World) : Calls Try.prog 31 #[.agg #[.string a, .string b]] w fun e w' => e = .returned (.agg #[.string a, .string b]) ∧ Below w.heap.size w w' := by
  have HB := Lib.hid ((((Below.refl w.heap.size w).alloc (Nat.le_refl _) (.cells #[.string a, .string b] 52)).alloc (by simp) (.cells #[.string a, .string b] 38)).alloc (by simp; omega) (.cells #[.string a, .string b] 38))
  go_enter Try.func31, Try.ntmps31
  go_wp2
  refine bodyPost_ret_by (v := .agg #[.string a, .string b]) ?_ rfl ⟨rfl, HB.out⟩
  simp [results, Try.results31, Try.isAgg38, Try.sizeOf38, go_sem]
theorem eqFileE_any (a b c d : ByteArray) (w : World) : Calls Try.prog 36 #[.agg #[.string a, .string b], .agg #[.string c, .string d]] w fun e w' => e = .returned (.bool (decide (a = c ∧ b = d))) ∧ w' = (w.alloc (.cells #[.string a, .string b] 38)).alloc (.cells #[.string c, .string d] 38) := by
  by_cases h1 : a = c
  · by_cases h2 : b = d
    · subst h1
      subst h2
      go_enter Try.func36, Try.ntmps36
      go_wp2
      go_ret
      exact ⟨ret_bool (by simp), rfl⟩
    · have e2 : (b.toList == d.toList) = false := by simpa using fun h => h2 (toList_injF h)
      have HF := Lib.hid h2
      clear h2
      subst h1
      go_enter Try.func36, Try.ntmps36
      go_wp2
      go_ret
      exact ⟨ret_bool (by simp [HF.out]), rfl⟩
  · have e2 : (a.toList == c.toList) = false := by simpa using fun h => h1 (toList_injF h)
    have HF := Lib.hid h1
    clear h1
    go_enter Try.func36, Try.ntmps36
    go_wp2
    go_ret
    exact ⟨ret_bool (by simp [HF.out]), rfl⟩
theorem eqFile_is (a b c d : ByteArray) (v : Bool) (h : decide (a = c ∧ b = d) = v) (w : World) (n : Nat) (os : Array Obj) :
    Calls Try.prog 36 #[.agg #[.string a, .string b], .agg #[.string c, .string d]] (Sort.grow (w.drewN n) os) fun e w'' => e = .returned (.bool v) ∧ ∃ p : GrownBy, w'' = Sort.grow (w.drewN p.n) p.os :=
  Calls.grown_of ((eqFileE_any a b c d _).mono fun _ _ h2 => ⟨by rw [h2.1, h], 0, #[.cells #[.string a, .string b] 38] ++ #[.cells #[.string c, .string d] 38], by rw [h2.2, Sort.alloc_eq_grow, Sort.alloc_eq_grow, Sort.grow_grow]; rfl⟩)
end
end Go.Proofs.Ytndiofhinlogmaa
