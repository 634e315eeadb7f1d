/- Entries by value: whether one is in range; whether two are the same; a copy. -/
import Derived.Test.YtfoocgfedcfkhaaText
import Derived.Below
import Derived.Deep.QuietTactic
import Derived.BigQuiet
import Derived.IntWalk
import Derived.Deep.RegionWith
import Derived.Shelf.SlSortCmp.QuietGrown
namespace Go.Proofs.Ytfoocgfedcfkhaa
open Go.RowKit

abbrev spotV (s : Int × Int) : Value := .agg #[.int .i64 s.1, .int .i64 s.2]
def spotB (s : Int × Int) : Bool := decide (0 ≤ s.1) && decide (s.1 < 999999999989) && decide (1 ≤ s.2) && decide (s.2 ≤ 99)
section
set_option maxHeartbeats 400000
theorem nameIn_any (n : Int) (w : World) : Calls Try.prog 36 #[.int .i64 n] w fun e w' => e = .returned (.bool (decide (0 ≤ n) && decide (n < 999999999989))) ∧ w' = w := by
  by_cases h1 : 0 ≤ n
  all_goals by_cases h2 : n < 999999999989
  all_goals
    go_enter Try.func36, Try.ntmps36
    go_wp2
    go_ret
    exact ⟨ret_bool (by simp [h1, h2]), rfl⟩
theorem spotB_parts (a b : Int) : spotB (a, b) = ((decide (0 ≤ a) && decide (a < 999999999989)) && (decide (1 ≤ b) && decide (b ≤ 99))) := by simp [spotB, Bool.and_assoc]
theorem spotOk_any (a b : Int) (w : World) : Calls Try.prog 27 #[.agg #[.int .i64 a, .int .i64 b]] w fun e w' => e = .returned (.bool (spotB (a, b))) ∧ w' = w.alloc (.cells #[.int .i64 a, .int .i64 b] 32) := by
  rw [spotB_parts]
  obtain ⟨p, hp⟩ : ∃ p, (decide (0 ≤ a) && decide (a < 999999999989)) = p := ⟨_, rfl⟩
  have HP := Lib.hid hp
  rw [hp]
  clear hp
  by_cases h3 : 1 ≤ b
  all_goals by_cases h4 : b ≤ 99
  all_goals cases p
  all_goals first
    | omega
    | (go_enter Try.func27, Try.ntmps27
       go_wp2_with fail
       refine (nameIn_any a _).mono ?_
       rintro e w' ⟨rfl, rfl⟩
       rw [HP.out]
       go_wp2
       go_ret
       exact ⟨ret_bool (by simp [h3, h4]), rfl⟩)
theorem l4Spot_any (a b : Int) (w : World) : Calls Try.prog 25 #[.agg #[.int .i64 a, .int .i64 b]] w fun e w' => e = .returned (.bool (spotB (a, b))) ∧ w' = w.alloc (.cells #[.int .i64 a, .int .i64 b] 32) := by
  have e : spotB (a, b) = (decide (0 ≤ a ∧ a ≤ 999999999988) && decide (1 ≤ b ∧ b ≤ 99)) := by
    rw [spotB_parts, Bool.eq_iff_iff]
    simp
    omega
  rw [e]
  clear e
  obtain ⟨p, hp⟩ : ∃ p, decide (0 ≤ a ∧ a ≤ 999999999988) = p := ⟨_, rfl⟩
  obtain ⟨q, hq⟩ : ∃ q, decide (1 ≤ b ∧ b ≤ 99) = q := ⟨_, rfl⟩
  have HP := Lib.hid hp
  have HQ := Lib.hid hq
  rw [hp, hq]
  clear hp hq
  cases p
  · go_enter Try.func25, Try.ntmps25
    go_wp2_with fail
    refine (l6In_any _ _ _ _).mono ?_
    rintro e w' ⟨rfl, rfl⟩
    rw [HP.out]
    go_wp2
    go_ret
    exact ⟨ret_bool (by simp), rfl⟩
  · go_enter Try.func25, Try.ntmps25
    go_wp2_with fail
    refine (l6In_any _ _ _ _).mono ?_
    rintro e w' ⟨rfl, rfl⟩
    rw [HP.out]
    go_wp2_with fail
    refine (l6In_any _ _ _ _).mono ?_
    rintro e w' ⟨rfl, rfl⟩
    rw [HQ.out]
    go_wp2
    go_ret
    exact ⟨ret_bool (by simp), rfl⟩
theorem eqSpotE_any (a b c d : Int) (w : World) : Calls Try.prog 28 #[.agg #[.int .i64 a, .int .i64 b], .agg #[.int .i64 c, .int .i64 d]] w fun e w' => e = .returned (.bool (decide (a = c ∧ b = d))) ∧ w' = (w.alloc (.cells #[.int .i64 a, .int .i64 b] 32)).alloc (.cells #[.int .i64 c, .int .i64 d] 32) := by
  by_cases h1 : a = c
  · by_cases h2 : b = d
    · subst h1
      subst h2
      go_enter Try.func28, Try.ntmps28
      go_wp2
      go_ret
      exact ⟨ret_bool (by simp), rfl⟩
    · have e2 : (b != d) = true := by simpa using h2
      have HF := Lib.hid h2
      clear h2
      subst h1
      go_enter Try.func28, Try.ntmps28
      go_wp2
      go_ret
      exact ⟨ret_bool (by simp [HF.out]), rfl⟩
  · have e2 : (a != c) = true := by simpa using h1
    have HF := Lib.hid h1
    clear h1
    go_enter Try.func28, Try.ntmps28
    go_wp2
    go_ret
    exact ⟨ret_bool (by simp [HF.out]), rfl⟩
theorem toSpot_any (a b : Int) (w : World) : Calls Try.prog 26 #[.agg #[.int .i64 a, .int .i64 b]] w fun e w' => e = .returned (.agg #[.int .i64 a, .int .i64 b]) ∧ Below w.heap.size w w' := by
  have HB := Lib.hid ((((Below.refl w.heap.size w).alloc (Nat.le_refl _) (.cells #[.int .i64 a, .int .i64 b] 42)).alloc (by simp) (.cells #[.int .i64 a, .int .i64 b] 32)).alloc (by simp; omega) (.cells #[.int .i64 a, .int .i64 b] 32))
  go_enter Try.func26, Try.ntmps26
  go_wp2
  refine bodyPost_ret_by (v := .agg #[.int .i64 a, .int .i64 b]) ?_ rfl ⟨rfl, HB.out⟩
  simp [results, Try.results26, Try.isAgg32, Try.sizeOf32, go_sem]
/-- a slice value that reads, below block B, as a list of entries -/
def Lsp (w : World) (B : Nat) (v : Value) (l : List (Int × Int)) : Prop :=
  ∃ A c, v = .slice A l.length c ∧ l.length ≤ c ∧ (0 < l.length → ∃ g off, A = some ⟨g, off, none⟩ ∧ g < B ∧ ∀ (j : Nat) (s : Int × Int), l[j]? = some s → w.cell? ⟨g, off + j * 2, none⟩ = some (.int .i64 s.1) ∧ w.cell? ⟨g, off + j * 2 + 1, none⟩ = some (.int .i64 s.2))
def okAt (l : List (Int × Int)) (i : Nat) : Bool := match l[i]? with
  | some s => spotB s && (match i with
    | 0 => true
    | i + 1 => match l[i]? with
      | some p => decide (p.1 < s.1)
      | none => true)
  | none => true
def idxTo (l : List (Int × Int)) (k : Nat) : Bool := (List.range k).all (okAt l)
def idxB (l : List (Int × Int)) : Bool := idxTo l l.length
theorem idxTo_succ (l : List (Int × Int)) (k : Nat) : idxTo l (k + 1) = (idxTo l k && okAt l k) := by
  simp [idxTo, List.range_succ]
theorem idxB_no {l : List (Int × Int)} {k : Nat} (hk : k < l.length) (h : okAt l k = false) : idxB l = false := by
  unfold idxB idxTo
  rw [List.all_eq_false]
  exact ⟨k, List.mem_range.2 hk, by simp [h]⟩
theorem okAt_bad {l : List (Int × Int)} {k : Nat} {s : Int × Int} (hs : l[k]? = some s) (h : spotB s = false) : okAt l k = false := by simp [okAt, hs, h]
theorem okAt_first {l : List (Int × Int)} {s : Int × Int} (hs : l[0]? = some s) (h : spotB s = true) : okAt l 0 = true := by simp [okAt, hs, h]
theorem okAt_next {l : List (Int × Int)} {k : Nat} {s p : Int × Int} (hs : l[k + 1]? = some s) (hp : l[k]? = some p) (h : spotB s = true) : okAt l (k + 1) = decide (p.1 < s.1) := by simp [okAt, hs, hp, h]
theorem tk_snoc {α : Type} {l m : List α} {k : Nat} {x : α} (h : l.take k = m.take k) (h1 : l[k]? = some x) (h2 : m[k]? = some x) : l.take (k + 1) = m.take (k + 1) := by
  rw [List.take_add_one, List.take_add_one, h, h1, h2]
theorem grown_of_bel {a w : World} (h : Below a.heap.size a w) (row : Option Nat) : a.grownBy w row := ⟨h.os, h.tape, h.output, h.size, fun i hi _ => h.block i hi⟩
theorem mixedO : Try.prog.follows .mixedOrders = true := by kernel_rfl
theorem below_grow {B : Nat} {w w' : World} (h : Below B w w') (hB : B ≤ w'.heap.size) (n : Nat) (os : Array Obj) : Below B w (Sort.grow (w'.drewN n) os) :=
  ⟨h.os, h.tape, h.output, Nat.le_trans h.size (by simp), fun i hi => (Sort.heap_grow_old (w'.drewN n) os (show i < w'.heap.size by omega)).trans (h.block i hi)⟩
theorem quiet_box {f : FuncId} {args : Array Value} {o : Obj} {v : Value} (h : ∀ w : World, Calls Try.prog f args w fun e w' => e = .returned v ∧ w' = w.alloc o) (w : World) (n : Nat) (os : Array Obj) :
    Calls Try.prog f args (Sort.grow (w.drewN n) os) fun e w'' => e = .returned v ∧ ∃ p : GrownBy, w'' = Sort.grow (w.drewN p.n) p.os :=
  Calls.grown_of ((h _).mono fun _ _ ⟨he, hw⟩ => ⟨he, 0, #[o], by rw [hw, Sort.alloc_eq_grow]; rfl⟩)
theorem new_cell (w : World) (cs : Array Value) (T : TypeId) (j : Nat) (v : Value) (h : cs[j]? = some v) (n : Nat) (os : Array Obj) : (Sort.grow ((w.alloc (.cells cs T)).drewN n) os).cell? ⟨w.heap.size, j, none⟩ = some v :=
  cell_grown (by simp) (by rw [cell_of_row (w.alloc (.cells cs T)) w.heap.size j cs T (0, 0) (heap_alloc_new w _)]; exact h) n os
theorem old_cell {w : World} {o : Obj} {a : Addr} {v : Value} (hb : a.block < w.heap.size) (h : w.cell? a = some v) (n : Nat) (os : Array Obj) : (Sort.grow ((w.alloc o).drewN n) os).cell? a = some v :=
  cell_grown (by simp; omega) ((World.cell?_alloc_lt w o a hb).trans h) n os
theorem spotOk_is (a b : Int) (v : Bool) (h : spotB (a, b) = v) (w : World) : Calls Try.prog 27 #[.agg #[.int .i64 a, .int .i64 b]] w fun e w' => e = .returned (.bool v) ∧ w' = w.alloc (.cells #[.int .i64 a, .int .i64 b] 32) := h ▸ spotOk_any a b w
theorem indexOk_any (w : World) (v : Value) (l : List (Int × Int)) (hl : Lsp w w.heap.size v l) (hn : l.length ≤ 1048600) :
    Calls Try.prog 13 #[v] w fun e w' => e = .returned (.bool (idxB l)) ∧ Below w.heap.size w w' := by
  obtain ⟨A, c, rfl, hc, hx⟩ := hl
  have HX := Lib.hid hx
  clear hx
  obtain ⟨n, hnn⟩ : ∃ n, l.length = n := ⟨_, rfl⟩
  have HN := Lib.hid hnn
  rw [hnn] at hn hc ⊢
  clear hnn
  have mixed := mixedO
  go_enter Try.func13, Try.ntmps13
  go_wp2
  go_loopw [7] (fun i wr => ∃ k : Nat, k ≤ n ∧ i = .int .i64 (k : Int) ∧ idxTo l k = true ∧ Below w.heap.size w wr) (fun i _ => n - (intOf i).toNat)
  case atStart => exact ⟨0, Nat.zero_le _, rfl, rfl, Below.refl _ _⟩
  case round =>
    obtain ⟨k, hk, rfl, ht, hb⟩ := hrel
    have HT := Lib.hid ht
    have HB := Lib.hid hb
    clear ht hb
    by_cases hlt : k < n
    · obtain ⟨⟨a, b⟩, hs⟩ : ∃ s, l[k]? = some s := ⟨_, List.getElem?_eq_getElem (by have := HN.out; omega)⟩
      obtain ⟨g, off, rfl, hg, hcg⟩ := HX.out (by have := HN.out; omega)
      obtain ⟨h1, h2⟩ := hcg k _ hs
      have hc1 := (HB.out.cell (p := ⟨g, off + k * 2, none⟩) hg).trans h1
      have hc2 := (HB.out.cell (p := ⟨g, off + k * 2 + 1, none⟩) hg).trans h2
      have hgr : g < wr.heap.size := Nat.lt_of_lt_of_le hg HB.out.size
      have HS := Lib.hid hs
      have HCG := Lib.hid hcg
      clear h1 h2 hs hcg
      have hi1 : (k : Int) < (n : Int) := by omega
      have hA := new_cell wr #[.int .i64 a, .int .i64 b] 32 0 _ rfl
      have hB := new_cell wr #[.int .i64 a, .int .i64 b] 32 1 _ rfl
      have HBW := Lib.hid (fun (n : Nat) (os : Array Obj) => below_grow (HB.out.alloc HB.out.size (.cells #[.int .i64 a, .int .i64 b] 32)) (by simp; have := HB.out.size; omega) n os)
      cases hsb : spotB (a, b) with
      | false =>
        have HF := Lib.hid (idxB_no (by rw [HN.out]; exact hlt) (okAt_bad HS.out hsb))
        have HSB := Lib.hid (fun w => spotOk_is a b false hsb w)
        clear hsb
        go_wp2_with fail
        refine wp_region_quiet_grown (by assumption) (by kernel_rfl) ?_
        repeat (first | go_big_quiet_skip | quiet_step (first | (go_at_call 27; exact quiet_box HSB.out _ _ _)))
        refine wpQuiet_nil ?_
        intro _ hw'
        obtain ⟨⟨nq, osq⟩, hw''⟩ := hw'
        subst hw''
        go_wp2
        go_ret
        exact ⟨ret_bool HF.out.symm, HBW.out _ _⟩
      | true =>
        have HSB := Lib.hid (fun w => spotOk_is a b true hsb w)
        rcases Nat.eq_zero_or_pos k with h0 | h0
        · have HOK := Lib.hid (show idxTo l (k + 1) = true by rw [idxTo_succ, HT.out]; subst h0; rw [okAt_first HS.out hsb]; rfl)
          have hdk : decide (0 < k) = false := decide_eq_false (by omega)
          clear hsb h0
          go_wp2_with fail
          refine wp_region_quiet_grown (by assumption) (by kernel_rfl) ?_
          repeat (first | go_big_quiet_skip | quiet_step (first | (go_at_call 27; exact quiet_box HSB.out _ _ _)))
          refine wpQuiet_nil ?_
          intro _ hw'
          obtain ⟨⟨nq, osq⟩, hw''⟩ := hw'
          subst hw''
          go_wp2
          go_roundw
          case rel => exact ⟨k + 1, by omega, by go_num, HOK.out, HBW.out _ _⟩
          case measure => simp [intOf]; omega
        · obtain ⟨m, hm⟩ : ∃ m, k = m + 1 := ⟨k - 1, by omega⟩
          obtain ⟨⟨a', b'⟩, hs'⟩ : ∃ s, l[m]? = some s := ⟨_, List.getElem?_eq_getElem (by have := HN.out; omega)⟩
          have hP := old_cell (o := .cells #[.int .i64 a, .int .i64 b] 32) (a := ⟨g, off + m * 2, none⟩) hgr ((HB.out.cell (p := ⟨g, off + m * 2, none⟩) hg).trans (HCG.out m _ hs').1)
          have hOK : okAt l k = decide (a' < a) := by
            subst hm
            exact okAt_next HS.out hs' hsb
          have hw : IntKind.i64.wrap ((k : Int) - 1) = (m : Int) := by rw [IntKind.wrap_i64]; omega
          have hm0 : (0 : Int) ≤ (m : Int) := by omega
          have hmn : (m : Int) < (n : Int) := by omega
          have hk0 : (0 : Int) < (k : Int) := by omega
          have hdk : decide (0 < k) = true := decide_eq_true h0
          clear hsb hs' hm
          by_cases hlt2 : a' < a
          · have hd : decide (a ≤ a') = false := decide_eq_false (by omega)
            have HOK := Lib.hid (show idxTo l (k + 1) = true by rw [idxTo_succ, HT.out, hOK, decide_eq_true hlt2]; rfl)
            clear hOK
            go_wp2_with fail
            refine wp_region_quiet_grown (by assumption) (by kernel_rfl) ?_
            repeat (first | go_big_quiet_skip | quiet_step (first | (go_at_call 27; exact quiet_box HSB.out _ _ _)))
            refine wpQuiet_nil ?_
            intro _ hw'
            obtain ⟨⟨nq, osq⟩, hw''⟩ := hw'
            subst hw''
            go_wp2
            go_roundw
            case rel => exact ⟨k + 1, by omega, by go_num, HOK.out, HBW.out _ _⟩
            case measure => simp [intOf]; omega
          · have hd : decide (a ≤ a') = true := decide_eq_true (by omega)
            have HF := Lib.hid (idxB_no (by rw [HN.out]; exact hlt) (by rw [hOK, decide_eq_false hlt2]))
            clear hOK
            go_wp2_with fail
            refine wp_region_quiet_grown (by assumption) (by kernel_rfl) ?_
            repeat (first | go_big_quiet_skip | quiet_step (first | (go_at_call 27; exact quiet_box HSB.out _ _ _)))
            refine wpQuiet_nil ?_
            intro _ hw'
            obtain ⟨⟨nq, osq⟩, hw''⟩ := hw'
            subst hw''
            go_wp2
            go_ret
            exact ⟨ret_bool HF.out.symm, HBW.out _ _⟩
    · have HF := Lib.hid (show idxB l = true by
        have h1 := HT.out
        rw [show k = l.length by have := HN.out; omega] at h1
        exact h1)
      go_wp2
      go_ret
      exact ⟨ret_bool HF.out.symm, HB.out⟩
end
end Go.Proofs.Ytfoocgfedcfkhaa
