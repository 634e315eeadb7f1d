/- What the drawings of texts and pieces give: strings of bounded length; of the memory that was there only the reader's own place is turned. -/
import Derived.Test.YtndiofhinlogmaaRead
import Derived.Maps.AppendAt
namespace Go.Proofs.Ytndiofhinlogmaa
open Go.RowKit

theorem grown_trans {a b c : World} {row : Option Nat} (h : a.grownBy b row) (k : b.grownBy c row) : a.grownBy c row :=
  ⟨k.os.trans h.os, k.tape.trans h.tape, k.output.trans h.output, Nat.le_trans h.size k.size, fun i hi hne => (k.block i (Nat.lt_of_lt_of_le hi h.size) hne).trans (h.block i hi hne)⟩
theorem grown_refl (w : World) (row : Option Nat) : w.grownBy w row := ⟨rfl, rfl, rfl, Nat.le_refl _, fun _ _ _ => rfl⟩
theorem grown_alloc {a w : World} {row : Option Nat} (h : a.grownBy w row) (o : Obj) : a.grownBy (w.alloc o) row :=
  ⟨h.os, h.tape, h.output, Nat.le_trans h.size (by simp), fun i hi hne => (Below.heap_alloc w o i (Nat.lt_of_lt_of_le hi h.size)).trans (h.block i hi hne)⟩
theorem grown_of_below {a w : World} (h : Below a.heap.size a w) (row : Option Nat) : a.grownBy w row := ⟨h.os, h.tape, h.output, h.size, fun i hi _ => h.block i hi⟩
theorem below_of_grown {B r : Nat} {a w : World} (h : a.grownBy w (some r)) (hB : B ≤ r) (hs : B ≤ a.heap.size) : Below B a w :=
  ⟨h.os, h.tape, h.output, h.size, fun i hi => h.block i (by omega) (fun e => by cases e; omega)⟩
theorem Rd.alloc {w : World} {r K : Nat} (h : Rd w r K) (o : Obj) : Rd (w.alloc o) r K :=
  h.grown (row := none) (World.grownBy_alloc w o none) (fun k e => by cases e)

/-- the reader has drawn, and a string that meets Q has come -/
def Gave (Q : ByteArray → Prop) (w : World) (r K : Nat) (e : Ending) (w' : World) : Prop :=
  ∃ s : ByteArray, e = .returned (.string s) ∧ Q s ∧ Rd w' r K ∧ w.grownBy w' (some r)
theorem Gave.mono {Q Q' : ByteArray → Prop} {w w' : World} {r K : Nat} {e : Ending} (h : Gave Q w r K e w') (hQ : ∀ s, Q s → Q' s) : Gave Q' w r K e w' := by
  obtain ⟨s, h1, h2, h3⟩ := h
  exact ⟨s, h1, hQ s h2, h3⟩

section
set_option maxHeartbeats 800000
theorem of_any (Q : ByteArray → Prop) (b m c : Nat) (w : World) (r K : Nat) (h : Rd w r K) (hK : K ≤ 90000) (hm : 1 ≤ m) (hm2 : m ≤ 1000) (hbr : b ≠ r)
    (hc : ∀ j, j < m → ∃ s : ByteArray, Q s ∧ w.cell? ⟨b, j, none⟩ = some (.string s)) :
    Calls Try.prog 26 #[.pointer (some ⟨r, 0, none⟩), .slice (some ⟨b, 0, none⟩) m c] w (Gave Q w r (K + 1)) := by
  have HC := Lib.hid hc
  clear hc
  go_enter Try.func26, Try.ntmps26
  go_wp2_with fail
  refine (pick_any (m : Int) _ r K h (by omega) (by omega)).mono ?_
  rintro e w1 ⟨x, rfl, hx, _, hr1, hg1⟩
  have hxm : x < m := by have := hx (by omega); omega
  obtain ⟨s, hQ, hcs⟩ := HC.out x hxm
  have hcs1 : w1.cell? ⟨b, x, none⟩ = some (.string s) := hg1.cell hcs (fun e => hbr (by injection e))
  have HR := Lib.hid hr1
  have HG := Lib.hid hg1
  have HQ := Lib.hid hQ
  clear hx hr1 hg1 hcs hQ h
  go_wp2
  go_ret
  exact ⟨s, rfl, HQ.out, HR.out, HG.out⟩

theorem lit_cells (w : World) (cs : Array Value) (T : TypeId) (Q : ByteArray → Prop) (h : ∀ v ∈ cs.toList, ∃ s, v = .string s ∧ Q s) (j : Nat) (hj : j < cs.size) :
    ∃ s, Q s ∧ (w.alloc (.cells cs T)).cell? ⟨w.heap.size, j, none⟩ = some (.string s) := by
  have h1 := cell_of_row (w.alloc (.cells cs T)) w.heap.size j cs T (0, 0) (heap_alloc_new w _)
  have hm : cs[j] ∈ cs.toList := by simp
  obtain ⟨s, hs, hQ⟩ := h _ hm
  refine ⟨s, hQ, ?_⟩
  rw [h1, Array.getElem?_eq_getElem hj, hs]
/-- a drawing among strings that have just been laid -/
theorem of_lit (Q : ByteArray → Prop) (m : Nat) (cs : Array Value) (w : World) (r K : Nat) (h : Rd w r K) (hK : K ≤ 90000) (hm : 1 ≤ m) (hm2 : m ≤ 1000) (hc : cs.size = m)
    (hq : ∀ v ∈ cs.toList, ∃ s, v = .string s ∧ Q s) :
    Calls Try.prog 26 #[.pointer (some ⟨r, 0, none⟩), .slice (some ⟨w.heap.size, 0, none⟩) m m] (w.alloc (.cells cs 9)) (Gave Q w r (K + 1)) := by
  refine (of_any Q w.heap.size m m _ r K (h.alloc _) hK hm hm2 (by have := h.lt; omega) (fun j hj => lit_cells w cs _ Q hq j (by omega))).mono ?_
  rintro e w' ⟨s, h1, h2, h3, h4⟩
  exact ⟨s, h1, h2, h3, grown_trans (grown_alloc (grown_refl w _) _) h4⟩
/-- a byte, laid in a new block, made into a string -/
theorem conv_one (w : World) (x : Nat) (hx : x < 26) :
    ∃ s : ByteArray, s.size = 1 ∧ (convert 23 9 (.slice (some ⟨w.heap.size, 0, none⟩) 1 1)).run Try.prog (w.alloc (.cells #[.int .u8 (97 + (x : Int))] 5)) =
      .ok (.string s) (w.alloc (.cells #[.int .u8 (97 + (x : Int))] 5)) := by
  refine ⟨_, ?_, run_convert_bytes_back (P := Try.prog) (w.alloc (.cells #[.int .u8 (97 + (x : Int))] 5)) 23 9 5 ⟨w.heap.size, 0, none⟩ 1 [UInt8.ofNat (97 + x)] Try.underlying23 Try.underlying5 Try.underlying9 ?_⟩
  · rfl
  · intro j hj
    have hj0 : j = 0 := by simpa using hj
    subst hj0
    have h1 := cell_of_row (w.alloc (.cells #[.int .u8 (97 + (x : Int))] 5)) w.heap.size 0 _ _ _ (heap_alloc_new w _)
    show World.cell? _ ⟨w.heap.size, 0, none⟩ = _
    rw [h1]
    simp; omega
theorem size_A : (⟨#[65]⟩ : ByteArray).size = 1 := rfl
def Short (n : Nat) (s : ByteArray) : Prop := s.size ≤ n

theorem l6Many_9 (s : ByteArray) (w : World) (hs : s.size = 5) : Calls Try.prog 53 #[.string s, .int .i64 9] w fun e w' => (∃ o : ByteArray, e = .returned (.string o) ∧ o.size = 45) ∧ w = w' := by
  have HS := Lib.hid hs
  clear hs
  go_enter Try.func53, Try.ntmps53
  go_wp2
  go_loop [0, 1, 5] (fun a n o => ∃ (x y : ByteArray) (k : Nat), a = .string x ∧ o = .string y ∧ n = .int .i64 (k : Int) ∧ ((k = 9 ∧ x.size ≤ 5 ∧ y.size ≤ 0 ∧ 5 ≤ x.size) ∨ (k = 4 ∧ x.size ≤ 10 ∧ y.size ≤ 5 ∧ 10 ≤ x.size ∧ 5 ≤ y.size) ∨ (k = 2 ∧ x.size ≤ 20 ∧ y.size ≤ 5 ∧ 20 ≤ x.size ∧ 5 ≤ y.size) ∨ (k = 1 ∧ x.size ≤ 40 ∧ y.size ≤ 5 ∧ 40 ≤ x.size ∧ 5 ≤ y.size) ∨ (k = 0 ∧ y.size ≤ 45 ∧ 45 ≤ y.size))) (fun _ n _ => (intOf n).toNat)
  case atStart => exact ⟨s, ByteArray.empty, 9, rfl, rfl, rfl, .inl ⟨rfl, by rw [HS.out]; omega, by simp, by rw [HS.out]; omega⟩⟩
  case round =>
    obtain ⟨x, y, k, rfl, rfl, rfl, hh⟩ := hrel
    rcases hh with ⟨rfl, h1, h2, h3⟩ | ⟨rfl, h1, h2, h3, h4⟩ | ⟨rfl, h1, h2, h3, h4⟩ | ⟨rfl, h1, h2, h3, h4⟩ | ⟨rfl, h2, h4⟩
    · go_wp2
      go_round
      case rel => exact ⟨_, _, 4, rfl, rfl, rfl, .inr (.inl ⟨rfl, by simp; omega, by simp; omega, by simp; omega, by simp; omega⟩)⟩
      case measure => simp [intOf]
    · go_wp2
      go_round
      case rel => exact ⟨_, _, 2, rfl, rfl, rfl, .inr (.inr (.inl ⟨rfl, by simp; omega, by omega, by simp; omega, by omega⟩))⟩
      case measure => simp [intOf]
    · go_wp2
      go_round
      case rel => exact ⟨_, _, 1, rfl, rfl, rfl, .inr (.inr (.inr (.inl ⟨rfl, by simp; omega, by omega, by simp; omega, by omega⟩)))⟩
      case measure => simp [intOf]
    · go_wp2
      go_round
      case rel => exact ⟨_, _, 0, rfl, rfl, rfl, .inr (.inr (.inr (.inr ⟨rfl, by simp; omega, by simp; omega⟩)))⟩
      case measure => simp [intOf]
    · go_wp2
      go_ret
      exact ⟨⟨y, rfl, by omega⟩, rfl⟩

theorem l91Text_any (w : World) (r K : Nat) (h : Rd w r K) (hK : K ≤ 80000) : Calls Try.prog 50 #[.pointer (some ⟨r, 0, none⟩)] w (Gave (Short 45) w r (K + 19)) := by
  have HR := Lib.hid h
  clear h
  go_enter Try.func50, Try.ntmps50
  go_wp2_with fail
  refine (pick_any 5 w r K HR.out (by omega) (by omega)).mono ?_
  rintro e w1 ⟨x, rfl, hx, _, hr1, hg1⟩
  have hx4 : x < 5 := by have := hx (by omega); omega
  have HR1 := Lib.hid hr1
  have HG1 := Lib.hid hg1
  clear hx hr1 hg1
  go_wp2_with fail
  go_loopw [3, 4] (fun s n wr => ∃ (y : ByteArray) (m : Nat), s = .string y ∧ n = .int .i64 (m : Int) ∧ m ≤ 4 ∧ y.size + 6 * m ≤ 24 ∧ Rd wr r (K + 5 - m) ∧ w.grownBy wr (some r)) (fun _ n _ => (intOf n).toNat)
  case atStart => exact ⟨ByteArray.empty, x, rfl, rfl, by omega, by simp; omega, HR1.out.more (by omega), HG1.out⟩
  case round =>
    obtain ⟨y, m, rfl, rfl, hm, hy, hr, hg⟩ := hrel
    have HR2 := Lib.hid hr
    have HG2 := Lib.hid hg
    clear hr hg
    by_cases hm0 : 0 < m
    · go_wp2_with fail
      refine (of_lit (Short 6) 8 _ wr r (K + 5 - m) HR2.out (by omega) (by omega) (by omega) rfl ?_).mono ?_
      · intro v hv
        simp at hv
        rcases hv with rfl | rfl | rfl | rfl | rfl | rfl | rfl | rfl <;> exact ⟨_, rfl, by unfold Short; decide⟩
      rintro e w3 ⟨z, rfl, hz, hr3, hg3⟩
      have hz2 : z.size ≤ 6 := hz
      have HR3 := Lib.hid hr3
      have HG3 := Lib.hid hg3
      clear hz hr3 hg3
      go_wp2
      go_roundw
      case rel => exact ⟨_, m - 1, rfl, by go_num, by omega, by simp; omega, HR3.out.more (by omega), grown_trans HG2.out HG3.out⟩
      case measure => simp [intOf]; omega
    · have hm1 : m = 0 := by omega
      subst hm1
      go_wp2_with fail
      refine (pick_any 4 _ r (K + 5) (HR2.out.more (by omega)) (by omega) (by omega)).mono ?_
      rintro e w3 ⟨x3, rfl, hx3, _, hr3, hg3⟩
      have HR3 := Lib.hid hr3
      have HG3 := Lib.hid (grown_trans HG2.out hg3)
      clear hx3 hr3 hg3
      by_cases q3 : x3 = 0
      · subst q3
        go_wp2_with fail
        refine (pick_any 12 _ r (K + 5 + 1) HR3.out (by omega) (by omega)).mono ?_
        rintro e w4 ⟨x4, rfl, hx4, _, hr4, hg4⟩
        have hx11 : x4 < 12 := by have := hx4 (by omega); omega
        have HR4 := Lib.hid hr4
        have HG4 := Lib.hid (grown_trans HG3.out hg4)
        clear hx4 hr4 hg4
        go_wp2_with fail
        go_loopw [3, 5] (fun s n wr => ∃ (y : ByteArray) (m : Nat), s = .string y ∧ n = .int .i64 (m : Int) ∧ m ≤ 11 ∧ y.size + m ≤ 35 ∧ Rd wr r (K + 18 - m) ∧ w.grownBy wr (some r)) (fun _ n _ => (intOf n).toNat)
        case atStart => exact ⟨y, x4, rfl, rfl, by omega, by omega, HR4.out.more (by omega), HG4.out⟩
        case round =>
          obtain ⟨y, m, rfl, rfl, hm, hy, hr, hg⟩ := hrel
          have HR7 := Lib.hid hr
          have HG7 := Lib.hid hg
          clear hr hg
          by_cases hm0 : 0 < m
          · go_wp2_with fail
            refine (pick_any 26 _ r (K + 18 - m) HR7.out (by omega) (by omega)).mono ?_
            rintro e w8 ⟨x8, rfl, hx8, _, hr8, hg8⟩
            have hx25 : x8 < 26 := by have := hx8 (by omega); omega
            have HR8 := Lib.hid (hr8.alloc (.cells #[.int .u8 (97 + (x8 : Int))] 5))
            have HG8 := Lib.hid (grown_alloc (grown_trans HG7.out hg8) (.cells #[.int .u8 (97 + (x8 : Int))] 5))
            clear hx8 hr8 hg8
            obtain ⟨z, hz, hcz⟩ := conv_one w8 x8 hx25
            have HZ := Lib.hid hz
            have hzs : z.size ≤ 1 := by omega
            clear hz
            go_wp2
            go_roundw
            case rel => exact ⟨_, m - 1, rfl, by go_num, by omega, by simp; omega, HR8.out.more (by omega), HG8.out⟩
            case measure => simp [intOf]; omega
          · have hm1 : m = 0 := by omega
            subst hm1
            go_wp2_with fail
            refine (pick_any 60 _ r (K + 18 - 0) HR7.out (by omega) (by omega)).mono ?_
            rintro e w5 ⟨x5, rfl, hx5, _, hr5, hg5⟩
            have HR5 := Lib.hid (hr5.more (K' := K + 19) (by omega))
            have HG5 := Lib.hid (grown_trans HG7.out hg5)
            clear hx5 hr5 hg5
            by_cases q0 : x5 = 0
            · subst q0
              go_wp2
              go_ret
              exact ⟨_, rfl, by have := size_A; simp [Short]; omega, HR5.out, HG5.out⟩
            · by_cases q1 : x5 = 1
              · subst q1
                go_wp2_with (go_at_call 53; refine (l6Many_9 _ _ (by decide)).mono ?_; rintro e w' ⟨⟨o, rfl, ho⟩, rfl⟩)
                go_ret
                exact ⟨_, rfl, by simp [Short]; omega, HR5.out, HG5.out⟩
              · have b0 : ((x5 : Int) == 0) = false := by simp; omega
                have b1 : ((x5 : Int) == 1) = false := by simp; omega
                clear q0 q1
                go_wp2
                go_ret
                exact ⟨_, rfl, by simp [Short]; omega, HR5.out, HG5.out⟩
      · have b3 : ((x3 : Int) == 0) = false := by simp; omega
        clear q3
        go_wp2_with fail
        refine (pick_any 60 _ r (K + 5 + 1) HR3.out (by omega) (by omega)).mono ?_
        rintro e w5 ⟨x5, rfl, hx5, _, hr5, hg5⟩
        have HR5 := Lib.hid (hr5.more (K' := K + 19) (by omega))
        have HG5 := Lib.hid (grown_trans HG3.out hg5)
        clear hx5 hr5 hg5
        by_cases q0 : x5 = 0
        · subst q0
          go_wp2
          go_ret
          exact ⟨_, rfl, by have := size_A; simp [Short]; omega, HR5.out, HG5.out⟩
        · by_cases q1 : x5 = 1
          · subst q1
            go_wp2_with (go_at_call 53; refine (l6Many_9 _ _ (by decide)).mono ?_; rintro e w' ⟨⟨o, rfl, ho⟩, rfl⟩)
            go_ret
            exact ⟨_, rfl, by simp [Short]; omega, HR5.out, HG5.out⟩
          · have b0 : ((x5 : Int) == 0) = false := by simp; omega
            have b1 : ((x5 : Int) == 1) = false := by simp; omega
            clear q0 q1
            go_wp2
            go_ret
            exact ⟨_, rfl, by simp [Short]; omega, HR5.out, HG5.out⟩


/-- what a drawing function gives: a string that is not long; nothing that was there has turned -/
def Drew (n : Nat) (w : World) (e : Ending) (w' : World) : Prop := ∃ s : ByteArray, e = .returned (.string s) ∧ s.size ≤ n ∧ Below w.heap.size w w'
end
end Go.Proofs.Ytndiofhinlogmaa
