/- Items: measured, copied, compared. -/
import Derived.Test.YtkjginibdablnaaDoorPairs
import Derived.Deep.QuietTactic
import Derived.BigQuiet
import Derived.IntWalk
import Derived.Deep.RegionWith
import Derived.Shelf.SlSortCmp.QuietGrown
namespace Go.Proofs.YtkjginibdablnaaDoor
open Go.RowKit
abbrev Itm := Int × ByteArray
def ival (s : Itm) : Value × Value := (.int .i64 s.1, .string s.2)
def ivals (l : List Itm) : List (Value × Value) := l.map ival
theorem ivals_length (l : List Itm) : (ivals l).length = l.length := by simp [ivals]
theorem ivals_get {l : List Itm} {k : Nat} {s : Itm} (h : l[k]? = some s) : (ivals l)[k]? = some (.int .i64 s.1, .string s.2) := by simp [ivals, h, ival]
theorem ivals_append (l m : List Itm) : ivals (l ++ m) = ivals l ++ ivals m := by simp [ivals]
theorem ivals_take (l : List Itm) (k : Nat) : ivals (l.take k) = (ivals l).take k := by simp [ivals, List.map_take]
theorem ivals_drop (l : List Itm) (k : Nat) : ivals (l.drop k) = (ivals l).drop k := by simp [ivals, List.map_drop]
theorem ivals_ones : ∀ l : List Itm, Ones (ivals l)
  | [], u, h => by simp [ivals, flat] at h
  | s :: l, u, h => by
    rw [show ivals (s :: l) = ival s :: ivals l from rfl, flat_cons] at h
    rcases List.mem_cons.1 h with rfl | h
    · rfl
    · rcases List.mem_cons.1 h with rfl | h
      · rfl
      · exact ivals_ones l u h
theorem toList_injF {x y : ByteArray} (h : x.toList = y.toList) : x = y := by
  rw [ByteArray.toList_eq, ByteArray.toList_eq] at h
  exact ByteArray.ext (Array.toList_inj.1 h)
theorem tk_snoc {α : Type} {l m : List α} {k : Nat} {x : α} (h : l.take k = m.take k) (h1 : l[k]? = some x) (h2 : m[k]? = some x) : l.take (k + 1) = m.take (k + 1) := by
  rw [List.take_add_one, List.take_add_one, h, h1, h2]
theorem mixedO : Tryd.prog.follows .mixedOrders = true := by kernel_rfl
theorem below_grow {B : Nat} {w w' : World} (h : Below B w w') (hB : B ≤ w'.heap.size) (n : Nat) (os : Array Obj) : Below B w (Sort.grow (w'.drewN n) os) :=
  ⟨h.os, h.tape, h.output, Nat.le_trans h.size (by simp), fun i hi => (Sort.heap_grow_old (w'.drewN n) os (show i < w'.heap.size by omega)).trans (h.block i hi)⟩
theorem quiet_box {f : FuncId} {args : Array Value} {o : Obj} {v : Value} (h : ∀ w : World, Calls Tryd.prog f args w fun e w' => e = .returned v ∧ w' = w.alloc o) (w : World) (n : Nat) (os : Array Obj) :
    Calls Tryd.prog f args (Sort.grow (w.drewN n) os) fun e w'' => e = .returned v ∧ ∃ p : GrownBy, w'' = Sort.grow (w.drewN p.n) p.os :=
  Calls.grown_of ((h _).mono fun _ _ ⟨he, hw⟩ => ⟨he, 0, #[o], by rw [hw, Sort.alloc_eq_grow]; rfl⟩)
def isum : List Itm → Nat
  | [] => 0
  | s :: l => s.2.size + isum l
theorem isum_snoc : ∀ {l : List Itm} {k : Nat} {s : Itm}, l[k]? = some s → isum (l.take (k + 1)) = isum (l.take k) + s.2.size
  | t :: l, 0, s, h => by
    injection h with h
    subst h
    simp [isum]
  | t :: l, k + 1, s, h => by
    have h2 := isum_snoc (l := l) (k := k) (s := s) (by simpa using h)
    simp only [List.take_succ_cons, isum]
    omega
theorem isum_mem : ∀ {l : List Itm} {s : Itm}, s ∈ l → s.2.size ≤ isum l
  | t :: l, s, h => by
    rcases List.mem_cons.1 h with rfl | h
    · simp only [isum]; omega
    · have := isum_mem h
      simp only [isum]; omega
def ItemsIn (w : World) (v : Value) (l : List Itm) : Prop := Lp w w.heap.size v (ivals l) ∧ l.length ≤ maxLen ∧ ∀ s ∈ l, s.2.size ≤ maxLen
theorem infoItem : (Tryd.prog.info? 40).map (fun i => (i.zero, i.size, i.bytes)) = some (some (.agg #[.int .i64 0, .string ByteArray.empty]), 2, 24) := by kernel_rfl
theorem infoItem_parts : ∃ i0, Tryd.prog.info? 40 = some i0 ∧ i0.zero = some (.agg #[.int .i64 0, .string ByteArray.empty]) ∧ i0.size = 2 ∧ i0.bytes = 24 := by
  obtain ⟨i0, hi, hzz⟩ := Option.map_eq_some_iff.1 infoItem
  simp only [Prod.mk.injEq] at hzz
  exact ⟨i0, hi, hzz⟩
section
set_option maxHeartbeats 1600000
theorem szItem_any (a : Int) (b : ByteArray) (z : Nat) (hz : z ≤ 1048576) (hb : b.size ≤ maxLen) (w : World) : Calls Tryd.prog 58 #[.agg #[.int .i64 a, .string b], .int .i64 (z : Int)] w fun e w' =>
    e = .returned (.int .i64 (if b.size ≤ z then ((z - b.size : Nat) : Int) else -1)) ∧ w' = w.alloc (.cells #[.int .i64 a, .string b] 89) := by
  unfold maxLen at hb
  by_cases h1 : b.size ≤ z
  · rw [if_pos h1]
    have q1 : 0 ≤ (z : Int) - (b.size : Int) := by omega
    have q2 : (z : Int) - (b.size : Int) ≤ 1048576 := by omega
    go_enter Tryd.func58, Tryd.ntmps58
    go_wp2
    go_ret
    exact ⟨ret_int (by omega), rfl⟩
  · rw [if_neg h1]
    have q1 : (z : Int) - (b.size : Int) < 0 := by omega
    have q2 : -9223372036854775808 ≤ (z : Int) - (b.size : Int) := by omega
    go_enter Tryd.func58, Tryd.ntmps58
    go_wp2
    go_ret
    exact ⟨rfl, rfl⟩
theorem toItem_any (a : Int) (b : ByteArray) (w : World) : Calls Tryd.prog 60 #[.agg #[.int .i64 a, .string b]] w fun e w' => e = .returned (.agg #[.int .i64 a, .string b]) ∧ Below w.heap.size w w' := by
  have HB := Lib.hid ((((Below.refl w.heap.size w).alloc (Nat.le_refl _) (.cells #[.int .i64 a, .string b] 89)).alloc (by simp) (.cells #[.int .i64 a, .string b] 40)).alloc (by simp; omega) (.cells #[.int .i64 a, .string b] 40))
  go_enter Tryd.func60, Tryd.ntmps60
  go_wp2
  refine bodyPost_ret_by (v := .agg #[.int .i64 a, .string b]) ?_ rfl ⟨rfl, HB.out⟩
  simp [results, Tryd.results60, Tryd.isAgg40, Tryd.sizeOf40, go_sem]
theorem eqItemE_any (a c : Int) (b d : ByteArray) (w : World) : Calls Tryd.prog 62 #[.agg #[.int .i64 a, .string b], .agg #[.int .i64 c, .string d]] w fun e w' => e = .returned (.bool (decide (a = c ∧ b = d))) ∧ w' = (w.alloc (.cells #[.int .i64 a, .string b] 40)).alloc (.cells #[.int .i64 c, .string d] 40) := by
  by_cases h1 : a = c
  · by_cases h2 : b = d
    · subst h1
      subst h2
      go_enter Tryd.func62, Tryd.ntmps62
      go_wp2
      go_ret
      exact ⟨ret_bool (by simp), rfl⟩
    · have e2 : (b.toList == d.toList) = false := by simpa using fun h => h2 (toList_injF h)
      have HF := Lib.hid h2
      clear h2
      subst h1
      go_enter Tryd.func62, Tryd.ntmps62
      go_wp2
      go_ret
      exact ⟨ret_bool (by simp [HF.out]), rfl⟩
  · have e2 : (a != c) = true := by simpa using h1
    have HF := Lib.hid h1
    clear h1
    go_enter Tryd.func62, Tryd.ntmps62
    go_wp2
    go_ret
    exact ⟨ret_bool (by simp [HF.out]), rfl⟩
theorem eqItem_is (a c : Int) (b d : ByteArray) (v : Bool) (h : decide (a = c ∧ b = d) = v) (w : World) (n : Nat) (os : Array Obj) :
    Calls Tryd.prog 62 #[.agg #[.int .i64 a, .string b], .agg #[.int .i64 c, .string d]] (Sort.grow (w.drewN n) os) fun e w'' => e = .returned (.bool v) ∧ ∃ p : GrownBy, w'' = Sort.grow (w.drewN p.n) p.os :=
  Calls.grown_of ((eqItemE_any a c b d _).mono fun _ _ h2 => ⟨by rw [h2.1, h], 0, #[.cells #[.int .i64 a, .string b] 40] ++ #[.cells #[.int .i64 c, .string d] 40], by rw [h2.2, Sort.alloc_eq_grow, Sort.alloc_eq_grow, Sort.grow_grow]; rfl⟩)
end
end Go.Proofs.YtkjginibdablnaaDoor
