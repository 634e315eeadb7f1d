/- The marks that are texts. -/
import Derived.Test.YtpfhpmeefeodcaaLcutH
namespace Go.Proofs.Ytpfhpmeefeodcaa
open Go.RowKit
/-- the decimal digits of k ahead of a text -/
def digs (k : Nat) (out : ByteArray) : ByteArray := if _h : k = 0 then out else digs (k / 10) (⟨#[UInt8.ofNat (48 + k % 10)]⟩ ++ out)
termination_by k
decreasing_by omega
theorem digs_zero (out : ByteArray) : digs 0 out = out := by rw [digs]; simp
theorem digs_next (k : Nat) (out : ByteArray) (h : k ≠ 0) : digs k out = digs (k / 10) (⟨#[UInt8.ofNat (48 + k % 10)]⟩ ++ out) := by rw [digs, dif_neg h]
/-- the text of the mark k -/
def markT (k : Nat) : ByteArray := ⟨#[109]⟩ ++ digs k ⟨#[]⟩
theorem run_byte_text {P : Program} (w : World) (src dst e : TypeId) (c : UInt8) (n : Int) (hn : n = (c.toNat : Int)) (hs : P.underlying src = some (.slice e)) (he : P.underlying e = some (.int .u8)) (hd : P.underlying dst = some .string) :
    (convert src dst (.slice (some ⟨w.heap.size, 0, none⟩) 1 1)).run P (w.alloc (.cells #[.int .u8 n] e)) = .ok (.string ⟨#[c]⟩) (w.alloc (.cells #[.int .u8 n] e)) := by
  subst hn
  refine run_convert_bytes_back _ src dst e _ 1 [c] hs he hd fun j hj => ?_
  obtain rfl : j = 0 := by simp at hj; exact hj
  exact World.cell?_alloc_mark w _ e (0, 0) 0
section
set_option maxHeartbeats 800000
theorem markText_any (k : Nat) (h1 : 1 ≤ k) (hk : k ≤ 1000000000) (w : World) :
    Calls Try.prog 64 #[.int .i64 (k : Int)] w fun e w' => e = .returned (.string (markT k)) ∧ Below w.heap.size w w' := by
  have hk0 : ¬ k = 0 := by omega
  have hk1 : (1 : Int) ≤ (k : Int) := by omega
  go_enter Try.func64, Try.ntmps64
  go_wp2
  go_loopw [0, 3] (fun kk o wr => ∃ (j : Nat) (out : ByteArray), kk = .int .i64 (j : Int) ∧ o = .string out ∧ out.size + j ≤ k ∧ digs j out = digs k ⟨#[]⟩ ∧ Below w.heap.size w wr) (fun kk _ _ => (intOf kk).toNat)
  case atStart => exact ⟨k, ⟨#[]⟩, rfl, rfl, by simp [ByteArray.size], rfl, Below.refl _ _⟩
  case round =>
    obtain ⟨j, out, rfl, rfl, hs, hd, hb⟩ := hrel
    have HD := Lib.hid hd
    have HB := Lib.hid hb
    clear hd hb
    by_cases hj : j = 0
    · subst hj
      have HE : Hid (out = digs k ⟨#[]⟩) := Lib.hid (by rw [← HD.out, digs_zero])
      have hlen : out.size ≤ 1000000000 := by omega
      go_wp2
      go_ret
      exact ⟨by rw [markT, ← HE.out]; rfl, HB.out⟩
    · have hj1 : (0 : Int) < (j : Int) := by omega
      have hlen : out.size ≤ 1000000000 := by omega
      have HD2 : Hid (digs (j / 10) (⟨#[UInt8.ofNat (48 + j % 10)]⟩ ++ out) = digs k ⟨#[]⟩) := Lib.hid (by rw [← HD.out, digs_next j out hj])
      have hc : (48 + (j : Int) % 10) = ((UInt8.ofNat (48 + j % 10)).toNat : Int) := by rw [UInt8.toNat_ofNat']; omega
      have kc := run_byte_text (P := Try.prog) wr 22 9 5 (UInt8.ofNat (48 + j % 10)) _ hc (by rfl) (by rfl) (by rfl)
      have hsz : (ByteArray.mk #[UInt8.ofNat (48 + j % 10)]).size = 1 := rfl
      clear hc
      generalize ByteArray.mk #[UInt8.ofNat (48 + j % 10)] = cc at *
      go_wp2
      go_roundw
      case rel => exact ⟨j / 10, cc ++ out, by go_num, rfl, by rw [ByteArray.size_append]; omega, HD2.out, HB.out.alloc HB.out.size _⟩
      case measure => simp [intOf]; omega
/-- the marks k, k+1, .. as texts -/
def txts (k n : Nat) : List ByteArray := (List.range n).map fun i : Nat => markT (k + i)
theorem txts_length (k n : Nat) : (txts k n).length = n := by simp [txts]
theorem txts_get (k n j : Nat) (h : j < n) : (txts k n)[j]? = some (markT (k + j)) := by simp [txts, h]
theorem txts_next (k n : Nat) : txts k (n + 1) = txts k n ++ [markT (k + n)] := by simp [txts, List.range_succ]
theorem txts_set (k j : Nat) (xs : List Value) (h : j < xs.length) : (barVals (txts k j) ++ xs.drop j).set j (.string (markT (k + j))) = barVals (txts k (j + 1)) ++ xs.drop (j + 1) := by
  have hl : (barVals (txts k j)).length = j := by rw [barVals_length, txts_length]
  rw [List.set_append_right _ _ (by rw [hl]; exact Nat.le_refl _), hl, Nat.sub_self, List.drop_eq_getElem_cons h, List.set_cons_zero, txts_next]
  simp [barVals]
theorem txts_old (k j : Nat) (xs : List Value) (h : j < xs.length) : ∃ x, (barVals (txts k j) ++ xs.drop j)[j]? = some x := by
  refine ⟨xs[j], ?_⟩
  have hl : (barVals (txts k j)).length = j := by rw [barVals_length, txts_length]
  rw [List.getElem?_append_right (by rw [hl]; exact Nat.le_refl _), hl, Nat.sub_self, List.getElem?_drop, Nat.add_zero, List.getElem?_eq_getElem h]
theorem heldStringS_any (w : World) (v : Value) (k n : Nat) (h : Lst w w.heap.size v (barVals (txts k n))) (hn : n ≤ 100000) (hk : k ≤ 100000) (hk1 : 1 ≤ k) :
    Calls Try.prog 38 #[v, .int .i64 (k : Int)] w fun e w' => e = .returned (.int .i64 ((k + n : Nat) : Int)) ∧ Below w.heap.size w w' := by
  obtain ⟨A, c, rfl⟩ := lst_form h
  have hl : (barVals (txts k n)).length = n := by rw [barVals_length, txts_length]
  have HL : Hid (Lst w w.heap.size (.slice A n c) (barVals (txts k n))) := by rw [hl] at h; exact Lib.hid h
  clear h
  rw [hl]
  clear hl
  go_enter Try.func38, Try.ntmps38
  go_wp2
  go_loopw [1, 5] (fun kk i wr => ∃ j : Nat, j ≤ n ∧ kk = .int .i64 ((k + j : Nat) : Int) ∧ i = .int .i64 (j : Int) ∧ Below w.heap.size w wr) (fun _ i _ => n - (intOf i).toNat)
  case atStart => exact ⟨0, Nat.zero_le _, rfl, rfl, Below.refl _ _⟩
  case round =>
    obtain ⟨j, hj, rfl, rfl, hb⟩ := hrel
    have HB := Lib.hid hb
    clear hb
    obtain ⟨y, hy⟩ : ∃ y, k + j = y := ⟨_, rfl⟩
    have hy2 : y ≤ 200000 := by omega
    have hy1 : 1 ≤ y := by omega
    rw [hy]
    by_cases hlt : j < n
    · have HLr := Lib.hid (lst_next HL.out HB.out)
      obtain ⟨g, off, hA, hg, hc⟩ := lst_at HLr.out (barVals_get _ _ _ (txts_get k n j hlt))
      subst hA
      rw [hy] at hc
      have HG := Lib.hid hg
      clear hg
      have HY := Lib.hid hy
      clear hy
      have hi1 : (j : Int) < (n : Int) := by omega
      go_wp2_with fail
      generalize hmt : markT y = Y at *
      go_region_with (go_at_call 64; go_must ((with_reducible refine (markText_any y hy1 (by omega) _).mono ?_)); rintro e w' ⟨rfl, hb⟩; rw [hmt]; have HBm := Lib.hid (bel_drew1 hb); clear hb; have hc2 := (Below.cell HBm.out (p := ⟨g, off + j, none⟩) HG.out).trans hc)
      all_goals
        go_wp2
        go_roundw
        case rel => exact ⟨j + 1, by omega, by have := HY.out; go_num, by go_num, HB.out.trans (HBm.out.mono HB.out.size)⟩
        case measure => simp [intOf]; omega
    · have hjn : j = n := by omega
      have HY := Lib.hid hy
      clear hy
      subst hjn
      go_wp2
      go_ret
      exact ⟨by rw [HY.out]; rfl, HB.out⟩
theorem markStringS_own (w : World) (B : Nat) (T : TypeId) (A : Option Addr) (cap : Nat) (xs : List Value) (k n : Nat) (h : w.ownsRow B T 1 (.slice A n cap) n xs) (hA : 0 < n → ∃ g, A = some ⟨g, 0, none⟩ ∧ B ≤ g) (hBw : B ≤ w.heap.size) (hn : n ≤ 100000) (hk : k ≤ 100000) (hk1 : 1 ≤ k) :
    Calls Try.prog 37 #[.slice A n cap, .int .i64 (k : Int)] w fun e w' => e = .returned (.int .i64 ((k + n : Nat) : Int)) ∧ w'.ownsRow B T 1 (.slice A n cap) n (barVals (txts k n)) ∧ Below B w w' := by
  have hx : xs.length = n := by have := h.1; omega
  have HX := Lib.hid hx
  have H := Lib.hid h
  clear h hx
  go_enter Try.func37, Try.ntmps37
  go_wp2
  go_loopw [1, 5] (fun kk i wr => ∃ j : Nat, j ≤ n ∧ kk = .int .i64 ((k + j : Nat) : Int) ∧ i = .int .i64 (j : Int) ∧ wr.ownsRow B T 1 (.slice A n cap) n (barVals (txts k j) ++ xs.drop j) ∧ Below B w wr) (fun _ i _ => n - (intOf i).toNat)
  case atStart => exact ⟨0, Nat.zero_le _, rfl, rfl, by simpa [txts, barVals] using H.out, Below.refl _ _⟩
  case round =>
    obtain ⟨j, hj, rfl, rfl, ho, hb⟩ := hrel
    have HO := Lib.hid ho
    have HB := Lib.hid hb
    clear ho hb
    obtain ⟨y, hy⟩ : ∃ y, k + j = y := ⟨_, rfl⟩
    have hy2 : y ≤ 200000 := by omega
    have hy1 : 1 ≤ y := by omega
    rw [hy]
    by_cases hlt : j < n
    · obtain ⟨g, hA2, hg⟩ := hA (by omega)
      subst hA2
      clear hA
      have HE := Lib.hid (txts_set k j xs (by rw [HX.out]; exact hlt))
      rw [hy] at HE
      have HY := Lib.hid hy
      clear hy
      have hi1 : (j : Int) < (n : Int) := by omega
      generalize hmt : markT y = Y at *
      go_wp2_with fail
      refine (markText_any y hy1 (by omega) wr).mono ?_
      rintro e w' ⟨rfl, hb⟩
      rw [hmt]
      have HBm := Lib.hid hb
      clear hb
      have HO' : Hid (w'.ownsRow B T 1 (.slice (some ⟨g, 0, none⟩) n cap) n (barVals (txts k j) ++ xs.drop j)) := Lib.hid (HO.out.kept (grown_of_below HBm.out none) (Classical.em _))
      obtain ⟨old, hold⟩ := txts_old k j xs (by rw [HX.out]; exact hlt)
      have hc := (HO'.out.cellAt j (by omega)).trans hold
      clear hold
      have hf := HO'.out.frozenAt j
      have HS := Lib.hid (HO'.out.stored j (.string Y))
      go_wp2
      go_roundw
      case rel => exact ⟨j + 1, by omega, by have := HY.out; go_num, by go_num, by rw [← HE.out]; exact HS.out.1, (HB.out.trans (HBm.out.mono (Nat.le_trans hBw HB.out.size))).setCell hg _⟩
      case measure => simp [intOf]; omega
    · have hjn : j = n := by omega
      have HY := Lib.hid hy
      clear hy
      subst hjn
      go_wp2
      go_ret
      exact ⟨by rw [HY.out]; rfl, by have := HO.out; rwa [List.drop_of_length_le (by rw [HX.out]; exact Nat.le_refl _), List.append_nil] at this, HB.out⟩
theorem markStringS_any (w : World) (B : Nat) (T : TypeId) (v : Value) (xs : List Value) (k n : Nat) (h : w.ownsRow B T 1 v n xs) (hBw : B ≤ w.heap.size) (hn : n ≤ 100000) (hk : k ≤ 100000) (hk1 : 1 ≤ k) :
    Calls Try.prog 37 #[v, .int .i64 (k : Int)] w fun e w' => e = .returned (.int .i64 ((k + n : Nat) : Int)) ∧ w'.ownsRow B T 1 v n (barVals (txts k n)) ∧ Below B w w' := by
  rcases h.2 with ⟨hv, h0⟩ | ⟨g, cap, cur, hv, hb, _⟩
  · subst h0
    subst hv
    exact markStringS_own w B T none 0 xs k 0 h (fun h => absurd h (by omega)) hBw hn hk hk1
  · subst hv
    exact markStringS_own w B T _ cap xs k n h (fun _ => ⟨g, rfl, hb⟩) hBw hn hk hk1
end
end Go.Proofs.Ytpfhpmeefeodcaa
