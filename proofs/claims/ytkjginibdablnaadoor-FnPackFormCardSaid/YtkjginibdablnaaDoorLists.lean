/- Slices that are read as lists; the functions that say whether two of them are the same. -/
import Derived.Test.YtkjginibdablnaaDoorEnds
import Derived.Test.YtkjginibdablnaaDoorDraw
namespace Go.Proofs.YtkjginibdablnaaDoor
open Go.RowKit

/-- a slice value that reads, below block B, as a list of one-cell values -/
def Lst (w : World) (B : Nat) (v : Value) (xs : List Value) : Prop :=
  ∃ A c, v = .slice A xs.length c ∧ xs.length ≤ c ∧ (0 < xs.length → ∃ g off, A = some ⟨g, off, none⟩ ∧ g < B ∧ ∀ j x, xs[j]? = some x → w.cell? ⟨g, off + j, none⟩ = some x)
theorem lst_of_own {w : World} {base n : Nat} {e : TypeId} {v : Value} {xs : List Value} (h : w.ownsRow base e 1 v n xs) : Lst w w.heap.size v xs := by
  have hlen : xs.length = n := by have := h.1; omega
  rcases h.2 with ⟨hv, h0⟩ | ⟨g, cap, cur, hv, hb, hh, hnc, hcm, hcs, htk⟩
  · exact ⟨none, 0, by rw [hv, hlen, h0], by omega, fun hx => by omega⟩
  · refine ⟨some ⟨g, 0, none⟩, cap, by rw [hv, hlen], by omega, fun hx => ⟨g, 0, rfl, ?_, fun j x hj => ?_⟩⟩
    · rcases Nat.lt_or_ge g w.heap.size with hlt | hge
      · exact hlt
      · rw [Array.getElem?_eq_none hge] at hh; cases hh
    · subst hv
      rw [Nat.zero_add]
      exact own_cell h rfl hj
theorem lst_keep {w w' : World} {B : Nat} {v : Value} {xs : List Value} (h : Lst w B v xs) (hk : ∀ g, g < B → w'.heap[g]? = w.heap[g]?) : Lst w' B v xs := by
  obtain ⟨A, c, hv, hc, hx⟩ := h
  refine ⟨A, c, hv, hc, fun h0 => ?_⟩
  obtain ⟨g, off, hA, hg, hcell⟩ := hx h0
  exact ⟨g, off, hA, hg, fun j x hj => (World.cell?_of_block (a := ⟨g, off + j, none⟩) (hk g hg)).trans (hcell j x hj)⟩
theorem lst_below {w w' : World} {B : Nat} {v : Value} {xs : List Value} (h : Lst w B v xs) (hb : Below B w w') : Lst w' B v xs := lst_keep h fun g hg => hb.block g hg
theorem lst_drewN {w : World} {B : Nat} {v : Value} {xs : List Value} (h : Lst w B v xs) (n : Nat) : Lst (w.drewN n) B v xs := h
theorem lst_more {w : World} {B B' : Nat} {v : Value} {xs : List Value} (h : Lst w B v xs) (hB : B ≤ B') : Lst w B' v xs := by
  obtain ⟨A, c, hv, hc, hx⟩ := h
  refine ⟨A, c, hv, hc, fun h0 => ?_⟩
  obtain ⟨g, off, hA, hg, hcell⟩ := hx h0
  exact ⟨g, off, hA, by omega, hcell⟩
/-- strings as values -/
def barVals (l : List ByteArray) : List Value := l.map Value.string
theorem barVals_length (l : List ByteArray) : (barVals l).length = l.length := by simp [barVals]
theorem barVals_get (l : List ByteArray) (i : Nat) (s : ByteArray) (h : l[i]? = some s) : (barVals l)[i]? = some (.string s) := by simp [barVals, h]
def bars (l : List (List UInt8)) : List ByteArray := l.map fun p => ⟨p.toArray⟩
theorem strVals_bars (l : List (List UInt8)) : strVals l = barVals (bars l) := by simp [strVals, barVals, bars]
theorem bars_length (l : List (List UInt8)) : (bars l).length = l.length := by simp [bars]
theorem bars_inj {l m : List (List UInt8)} (h : bars l = bars m) : l = m := by
  have h2 := congrArg (List.map fun s : ByteArray => s.data.toList) h
  simpa [bars, Function.comp_def] using h2
def intVals (l : List Int) : List Value := l.map (Value.int .i64)
theorem intVals_length (l : List Int) : (intVals l).length = l.length := by simp [intVals]
theorem intVals_get (l : List Int) (i : Nat) (n : Int) (h : l[i]? = some n) : (intVals l)[i]? = some (.int .i64 n) := by simp [intVals, h]
def nats (l : List Nat) : List Int := l.map fun n : Nat => (n : Int)
theorem natVals_nats (l : List Nat) : natVals l = intVals (nats l) := by simp [natVals, intVals, nats]
theorem nats_length (l : List Nat) : (nats l).length = l.length := by simp [nats]

theorem toList_inj {x y : ByteArray} (h : x.toList = y.toList) : x = y := by
  rw [ByteArray.toList_eq, ByteArray.toList_eq] at h
  exact ByteArray.ext (Array.toList_inj.1 h)
theorem take_eq_snoc {α : Type} {l m : List α} {k : Nat} {x : α} (h : l.take k = m.take k) (h1 : l[k]? = some x) (h2 : m[k]? = some x) : l.take (k + 1) = m.take (k + 1) := by
  rw [List.take_add_one, List.take_add_one, h, h1, h2]
theorem ne_of_get {α : Type} {l m : List α} {k : Nat} {x y : α} (h1 : l[k]? = some x) (h2 : m[k]? = some y) (h : x ≠ y) : l ≠ m := by
  rintro rfl; rw [h1] at h2; exact h (by injection h2)

section
set_option maxHeartbeats 800000
theorem ldInts_any (w : World) (B : Nat) (va vb : Value) (la lb : List Int) (ha : Lst w B va (intVals la)) (hb : Lst w B vb (intVals lb)) (hm : la.length ≤ 1000000000) (hm2 : lb.length ≤ 1000000000) :
    Calls Tryd.prog 20 #[va, vb] w (QuietBool (decide (la = lb)) w) := by
  obtain ⟨A, ca, rfl, hca, hxa⟩ := ha
  obtain ⟨C, cb, rfl, hcb, hxb⟩ := hb
  rw [intVals_length] at *
  rw [intVals_length] at *
  by_cases hl : la.length = lb.length
  · have HXA := Lib.hid hxa
    have HXB := Lib.hid hxb
    have HL := Lib.hid hl
    obtain ⟨n, hn⟩ : ∃ n, la.length = n := ⟨_, rfl⟩
    have hn2 : lb.length = n := by omega
    have HN := Lib.hid hn
    have HN2 := Lib.hid hn2
    rw [hn] at hm ⊢
    rw [hn2]
    clear hxa hxb hl hn hn2 hca hcb
    go_enter Tryd.func20, Tryd.ntmps20
    go_wp2
    go_loopw [5] (fun i wr => ∃ k m : Nat, k ≤ n ∧ i = .int .i64 (k : Int) ∧ la.take k = lb.take k ∧ wr = w.drewN m) (fun i _ => n - (intOf i).toNat)
    case atStart => exact ⟨0, 0, Nat.zero_le _, rfl, rfl, rfl⟩
    case round =>
      obtain ⟨k, m, hk, rfl, ht, rfl⟩ := hrel
      have HT := Lib.hid ht
      clear ht
      by_cases hlt : k < n
      · obtain ⟨x, hx⟩ : ∃ x, la[k]? = some x := ⟨_, List.getElem?_eq_getElem (by have := HN.out; omega)⟩
        obtain ⟨y, hy⟩ : ∃ y, lb[k]? = some y := ⟨_, List.getElem?_eq_getElem (by have := HN2.out; omega)⟩
        obtain ⟨g, off, rfl, _, hcg⟩ := HXA.out (by have := HN.out; omega)
        obtain ⟨g2, off2, rfl, _, hcg2⟩ := HXB.out (by have := HN2.out; omega)
        have hc1 := hcg k _ (intVals_get _ _ _ hx)
        have hc2 := hcg2 k _ (intVals_get _ _ _ hy)
        have HX := Lib.hid hx
        have HY := Lib.hid hy
        clear hx hy hcg hcg2
        have hi1 : (k : Int) < (n : Int) := by omega
        by_cases hxy : x = y
        · subst hxy
          go_wp2
          go_quiet (fail)
          go_wp2
          go_roundw
          case rel => exact ⟨k + 1, _, by omega, by go_num, take_eq_snoc HT.out HX.out HY.out, rfl⟩
          case measure => simp [intOf]; omega
        · have hne : (x != y) = true := by simpa using hxy
          have HF := Lib.hid (ne_of_get HX.out HY.out hxy)
          clear hxy
          go_wp2
          go_quiet (fail)
          go_wp2
          go_ret
          exact ⟨ret_bool (by simp [HF.out]), _, by rw [World.drewN_drewN]⟩
      · have HE := Lib.hid (show la = lb by
          have h1 := HT.out
          rwa [List.take_of_length_le (by have := HN.out; omega), List.take_of_length_le (by have := HN2.out; omega)] at h1)
        go_wp2
        go_ret
        exact ⟨ret_bool (by simp [HE.out]), _, rfl⟩
  · have HF := Lib.hid (show la ≠ lb from fun h => hl (by rw [h]))
    have hne : ((la.length : Int) != (lb.length : Int)) = true := by simp; omega
    clear hxa hxb
    generalize la.length = n at *
    generalize lb.length = m at *
    go_enter Tryd.func20, Tryd.ntmps20
    go_wp2
    go_ret
    exact ⟨ret_bool (by simp [HF.out]), 0, rfl⟩
end
end Go.Proofs.YtkjginibdablnaaDoor
