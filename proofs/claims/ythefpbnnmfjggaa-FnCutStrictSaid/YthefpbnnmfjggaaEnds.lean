/- The reference's list of the ends of all pieces of a text, and its list of the pieces: each in new memory. -/
import Derived.Test.YthefpbnnmfjggaaCutPlain2
import Derived.Test.YthefpbnnmfjggaaCut
import Derived.Maps.AppendAt
namespace Go.Proofs.Ythefpbnnmfjggaa
open Go.RowKit

/-- numbers as values -/
def natVals (l : List Nat) : List Value := l.map fun n : Nat => Value.int .i64 (n : Int)
theorem natVals_snoc (l : List Nat) (n : Nat) : natVals (l ++ [n]) = natVals l ++ [.int .i64 (n : Int)] := by simp [natVals]
theorem natVals_length (l : List Nat) : (natVals l).length = l.length := by simp [natVals]
theorem natVals_get (l : List Nat) (i : Nat) (n : Nat) (h : l[i]? = some n) : (natVals l)[i]? = some (.int .i64 (n : Int)) := by simp [natVals, h]
/-- a slice of numbers in memory that is new since B -/
def OwnNats (B : Nat) (w : World) (v : Value) (l : List Nat) : Prop := w.ownsRow B 3 1 v l.length (natVals l)
/-- strings as values -/
def strVals (l : List (List UInt8)) : List Value := l.map fun p => Value.string ⟨p.toArray⟩
theorem strVals_snoc (l : List (List UInt8)) (p : List UInt8) : strVals (l ++ [p]) = strVals l ++ [.string ⟨p.toArray⟩] := by simp [strVals]
theorem strVals_length (l : List (List UInt8)) : (strVals l).length = l.length := by simp [strVals]
theorem strVals_get (l : List (List UInt8)) (i : Nat) (p : List UInt8) (h : l[i]? = some p) : (strVals l)[i]? = some (.string ⟨p.toArray⟩) := by simp [strVals, h]
theorem extract_str (s : ByteArray) (a b : Nat) : s.extract a b = ⟨((s.data.toList.drop a).take (b - a)).toArray⟩ := by
  apply ByteArray.ext
  apply Array.toList_inj.1
  simp [ByteArray.data_extract]
/-- a slice of strings in memory that is new since B -/
def OwnStrs (B : Nat) (w : World) (v : Value) (l : List (List UInt8)) : Prop := w.ownsRow B 9 1 v l.length (strVals l)
theorem own_form {w : World} {base : Nat} {e : TypeId} {size n : Nat} {v : Value} {xs : List Value} (h : w.ownsRow base e size v n xs) (hn : 0 < n) :
    ∃ g cap, v = .slice (some ⟨g, 0, none⟩) n cap ∧ base ≤ g ∧ g < w.heap.size := by
  rcases h.2 with ⟨_, h0⟩ | ⟨g, cap, cur, rfl, hb, hh, _⟩
  · omega
  · refine ⟨g, cap, rfl, hb, ?_⟩
    rcases Nat.lt_or_ge g w.heap.size with hlt | hge
    · exact hlt
    · rw [Array.getElem?_eq_none hge] at hh; cases hh
theorem own_cell {w : World} {base g n cap : Nat} {e : TypeId} {xs : List Value} (h : w.ownsRow base e 1 (.slice (some ⟨g, 0, none⟩) n cap) n xs) {k : Nat} {u v : Value} (hu : u = v) (hk : xs[k]? = some u) :
    w.cell? ⟨g, k, none⟩ = some v := by
  have ha : (⟨g, 0, none⟩ : Addr).add k = ⟨g, k, none⟩ := by unfold Addr.add; by_cases h : k = 0 <;> simp [h]
  rw [← ha, ← hu]; exact h.cells (g := g) rfl k u hk
theorem ownStrs_snoc {B : Nat} {w : World} {v : Value} {l : List (List UInt8)} {p : List UInt8} {x : ByteArray} (hx : x = ⟨p.toArray⟩) (h : w.ownsRow B 9 1 v (l.length + 1) (strVals l ++ [.string x])) : OwnStrs B w v (l ++ [p]) := by
  subst hx; unfold OwnStrs; rw [strVals_snoc, List.length_append]; exact h
theorem ownNats_snoc {B : Nat} {w : World} {v : Value} {l : List Nat} {n : Nat} (h : w.ownsRow B 3 1 v (l.length + 1) (natVals l ++ [.int .i64 (n : Int)])) : OwnNats B w v (l ++ [n]) := by
  unfold OwnNats; rw [natVals_snoc, List.length_append]; exact h
theorem own_ne {w : World} {B B' : Nat} {e e' : TypeId} {size size' n n' : Nat} {v v' : Value} {xs xs' : List Value} (hne : e ≠ e') (h : w.ownsRow B e size v n xs) (h' : w.ownsRow B' e' size' v' n' xs') :
    v.ownBlock = none ∨ v.ownBlock ≠ v'.ownBlock := by
  rcases h.2 with ⟨rfl, _⟩ | ⟨g, cap, cur, rfl, _, hh, _⟩
  · exact .inl rfl
  · right
    rcases h'.2 with ⟨rfl, _⟩ | ⟨g', cap', cur', rfl, _, hh', _⟩
    · simp [Value.ownBlock]
    · intro he
      have : g = g' := by simpa [Value.ownBlock] using he
      subst this
      rw [hh] at hh'
      simp at hh'
      exact hne hh'.2
theorem info_string : (Try.prog.info? 9).map (fun i => (i.zero, i.size, i.bytes)) = some (some (.string ByteArray.empty), 1, 16) := by kernel_rfl
theorem info_int : (Try.prog.info? 3).map (fun i => (i.zero, i.size, i.bytes)) = some (some (.int .i64 0), 1, 8) := by kernel_rfl
theorem own_alloc {w : World} {base e size n : Nat} {v : Value} {xs : List Value} (h : w.ownsRow base e size v n xs) (o : Obj) : (w.alloc o).ownsRow base e size v n xs := h.alloc o
theorem own_drewN {w : World} {base e size n : Nat} {v : Value} {xs : List Value} (h : w.ownsRow base e size v n xs) (k : Nat) : (w.drewN k).ownsRow base e size v n xs := h
/-- an append's step: what lay below B lies as it lay -/
theorem below_append {B : Nat} {w wr w1 : World} {e : TypeId} {size n : Nat} {v : Value} {xs : List Value} (hb : Below B w wr) (ho : wr.ownsRow B e size v n xs) (k : Nat) (o : Obj)
    (hg : ((wr.drewN k).alloc o).grownBy w1 v.ownBlock) (hw : B ≤ wr.heap.size) : Below B w w1 :=
  ((below_drewN hb k).alloc hw o).grown hg (by simp; omega) (fun j hj => (ho.lt j hj).1)
theorem endsAt_len40 {l : List UInt8} (h : l.length ≤ 40) (fr : Nat) : (endsAt l fr).length ≤ 40 := by
  have := (endsAt_length (l := l) fr).1; omega

/-- a slice of numbers stays as it is where a slice of strings is appended to -/
theorem nats_kept {w w2 : World} {B B' n : Nat} {v0 v : Value} {l : List Nat} {xs : List Value} (o : Obj) (hN : OwnNats B w v0 l) (hO : w.ownsRow B' 9 1 v n xs) (hg : (w.alloc o).grownBy w2 v.ownBlock) : OwnNats B w2 v0 l :=
  World.ownsRow.kept (own_alloc hN o) hg (own_ne (show (3 : TypeId) ≠ 9 by decide) (own_alloc hN o) (own_alloc hO o))
theorem nats_cell {w : World} {B g n cap k x : Nat} {l : List Nat} (h : OwnNats B w (.slice (some ⟨g, 0, none⟩) n cap) l) (hn : n = l.length) (hk : l[k]? = some x) : w.cell? ⟨g, k, none⟩ = some (.int .i64 (x : Int)) := by
  subst hn; exact own_cell h rfl (natVals_get _ _ _ hk)
section
set_option maxHeartbeats 800000
def GaveEnds (l : List UInt8) (w : World) (e : Ending) (w' : World) : Prop := ∃ v, e = .returned v ∧ OwnNats w.heap.size w' v (ends l) ∧ Below w.heap.size w w'
theorem l1Ends_any (s : ByteArray) (w : World) (hs : s.size ≤ 40) (hl : lets s.data.toList = true) : Calls Try.prog 40 #[.string s] w (GaveEnds s.data.toList w) := by
  obtain ⟨i0, hi, hz0, hz1, hz2⟩ := info_parts info_int
  have HS := Lib.hid (size_int s)
  have HL := Lib.hid hl
  clear hl
  go_enter Try.func40, Try.ntmps40
  go_wp2
  go_loopw [3, 4] (fun o t wr => ∃ (done : List Nat) (fr : Nat), t = .int .i64 (fr : Int) ∧ fr ≤ s.size ∧ done.length ≤ fr ∧ ends s.data.toList = done ++ endsAt s.data.toList fr ∧ OwnNats w.heap.size wr o done ∧ Below w.heap.size w wr) (fun _ t _ => s.size - (intOf t).toNat)
  case atStart => exact ⟨[], 0, rfl, Nat.zero_le _, Nat.le_refl _, rfl, by simpa [OwnNats, natVals] using World.ownsRow_made (size := 1) w #[] 0 (Nat.le_refl _) (by unfold maxLen; omega) (by simp), (Below.refl _ _).alloc (Nat.le_refl _) _⟩
  case round =>
    obtain ⟨done, fr, rfl, hfr, hdl, hE, hown, hb⟩ := hrel
    have HB := Lib.hid hb
    have HO := Lib.hid hown
    clear hb hown
    by_cases hlt : fr < s.size
    · have hll : fr < s.data.toList.length := by rw [HS.out]; exact hlt
      have hgt := cutE_gt hll
      have hle := cutE_le hll
      rw [HS.out] at hle
      have HE := Lib.hid (hE.trans (by rw [endsAt_cons hll]))
      clear hE hll
      go_wp2_with fail
      refine (l1At_at s fr _ hs hlt HL.out).mono ?_
      rintro e w2 ⟨rfl, n, rfl⟩
      generalize cutE s.data.toList fr = E at *
      go_wp2_with (at_builtin; refine wpList_append_own _ rfl _ _ 59 rfl w.heap.size 3 i0 (.int .i64 0) 1 8 Try.underlying59 hi hz0 hz1 hz2 rfl (by decide) _ _ _ rfl ((own_drewN HO.out n).alloc _) ⟨wr.heap.size, 0, none⟩ 1 1 [.int .i64 (E : Int)] rfl rfl (cell_one_new _ _ _) (by simp [Value.oneCell']) (by unfold maxLen; omega) (by omega) (by have := HB.out.size; simp; omega) ?_; intro v' w1 hown' hgrow _; have HO1 := Lib.hid hown'; have HG := Lib.hid hgrow; clear hown' hgrow)
      go_roundw
      case rel => exact ⟨done ++ [E], E, rfl, by omega, by simp; omega, by rw [HE.out]; simp, by simpa [OwnNats, natVals_snoc] using HO1.out, below_append HB.out HO.out n _ HG.out HB.out.size⟩
      case measure => simp [intOf]; omega
    · have HE := Lib.hid (show ends s.data.toList = done by rw [hE, endsAt_nil (by rw [HS.out]; exact hlt), List.append_nil])
      clear hE
      go_wp2
      go_ret
      exact ⟨_, rfl, by rw [HE.out]; exact HO.out, HB.out⟩
def GavePieces (l : List UInt8) (w : World) (e : Ending) (w' : World) : Prop := ∃ v, e = .returned v ∧ OwnStrs w.heap.size w' v (pieces l) ∧ Below w.heap.size w w'
theorem l1All_any (s : ByteArray) (w : World) (hs : s.size ≤ 40) (hl : lets s.data.toList = true) : Calls Try.prog 27 #[.string s] w (GavePieces s.data.toList w) := by
  obtain ⟨i0, hi, hz0, hz1, hz2⟩ := info_parts info_string
  have HS := Lib.hid (size_int s)
  have HL := Lib.hid hl
  clear hl
  have hn40 : (ends s.data.toList).length ≤ 40 := endsAt_len40 (by rw [HS.out]; exact hs) 0
  go_enter Try.func27, Try.ntmps27
  go_wp2_with fail
  refine (l1Ends_any s _ hs HL.out).mono ?_
  rintro e w1 ⟨v, rfl, hown, hb⟩
  have hb0 : Below w.heap.size w w1 := ((Below.refl _ w).alloc (Nat.le_refl _) _).trans (hb.mono (by simp))
  have ho0 : w1.ownsRow w.heap.size 9 1 (.slice (some ⟨w.heap.size, 0, none⟩) 0 0) 0 [] := by
    have h1 := World.ownsRow_made (size := 1) w #[] 0 (Nat.le_refl _) (by unfold maxLen; omega) (by simp) (e := 9)
    have h2 := hb.block w.heap.size (by simp)
    rcases h1.2 with ⟨h3, _⟩ | ⟨g, cap, cur, h3, h4, h5, h6⟩
    · cases h3
    · cases h3
      exact ⟨h1.1, .inr ⟨_, _, cur, rfl, h4, h2.trans h5, h6⟩⟩
  have hv : ∃ A c, v = .slice A (ends s.data.toList).length c := by
    rcases hown.2 with ⟨rfl, h0⟩ | ⟨g, cap, cur, rfl, _⟩
    · exact ⟨none, 0, by rw [h0]⟩
    · exact ⟨_, _, rfl⟩
  obtain ⟨A, c, rfl⟩ := hv
  have HB0 := Lib.hid hb0
  have HO0 := Lib.hid ho0
  have HN0 := Lib.hid hown
  have hw1 : w.heap.size < w1.heap.size := by have := hb.size; simp at this; omega
  clear hb0 ho0 hown hb
  go_wp2_with fail
  go_loopw [3, 4, 6] (fun o t i wr => ∃ k : Nat, i = .int .i64 (k : Int) ∧ k ≤ (ends s.data.toList).length ∧ t = .int .i64 ((atk s.data.toList 0 k : Nat) : Int) ∧ OwnStrs w.heap.size wr o ((pieces s.data.toList).take k) ∧
    OwnNats (w.heap.size + 1) wr (.slice A (ends s.data.toList).length c) (ends s.data.toList) ∧ Below w.heap.size w wr) (fun _ _ i _ => (ends s.data.toList).length - (intOf i).toNat)
  case atStart => exact ⟨0, rfl, Nat.zero_le _, rfl, HO0.out, by simpa using HN0.out, HB0.out⟩
  case round =>
    obtain ⟨k, rfl, hk, rfl, hown, hnat, hb⟩ := hrel
    by_cases hlt : k < (ends s.data.toList).length
    · have hg := endsAt_get s.data.toList k 0 hlt
      obtain ⟨hp, hlo, hhi⟩ := piecesAt_get s.data.toList k 0 hlt
      rw [HS.out] at hhi
      obtain ⟨g, cap, hform, _, hglt⟩ := own_form hnat (by omega)
      cases hform
      have hcell := World.ownsRow.cells hnat (g := g) rfl k _ (natVals_get _ _ _ hg)
      have hcell' : wr.cell? ⟨g, k, none⟩ = some (.int .i64 ((atk s.data.toList 0 (k + 1) : Nat) : Int)) := by
        have ha : (⟨g, 0, none⟩ : Addr).add k = ⟨g, k, none⟩ := by unfold Addr.add; by_cases h : k = 0 <;> simp [h]
        rw [← ha]; exact hcell
      have HX := Lib.hid (extract_str s (atk s.data.toList 0 k) (atk s.data.toList 0 (k + 1)))
      have HP := Lib.hid hp
      have HO := Lib.hid hown
      have HN := Lib.hid hnat
      have HB := Lib.hid hb
      have hpl : ((pieces s.data.toList).take k).length ≤ k := List.length_take_le _ _
      have HT := Lib.hid (show (pieces s.data.toList).take (k + 1) = (pieces s.data.toList).take k ++ [(s.data.toList.drop (atk s.data.toList 0 k)).take (atk s.data.toList 0 (k + 1) - atk s.data.toList 0 k)] by
        rw [List.take_add_one, show (pieces s.data.toList)[k]? = _ from hp]; rfl)
      clear hp hcell hown hnat hb
      generalize hA : atk s.data.toList 0 k = a at *
      generalize hC : atk s.data.toList 0 (k + 1) = b at *
      generalize hN : (ends s.data.toList).length = N at *
      have HA := Lib.hid hg
      have HC := Lib.hid hC
      have HL2 := Lib.hid hN.symm
      clear hA hC hN hg
      go_wp2_with (at_builtin; refine wpList_append_own _ rfl _ _ 22 rfl w.heap.size 9 i0 (.string ByteArray.empty) 1 16 Try.underlying22 hi hz0 hz1 hz2 rfl (by decide) _ _ _ rfl (own_alloc HO.out _) ⟨wr.heap.size, 0, none⟩ 1 1 [.string (s.extract a b)] rfl rfl (cell_one_new _ _ _) (by simp [Value.oneCell']) (by unfold maxLen; omega) (by omega) (by have := HB.out.size; simp; omega) ?_; intro v' w2 hown' hgrow _; have HN1 := Lib.hid (nats_kept _ HN.out HO.out hgrow); have HO1 := Lib.hid hown'; have HG := Lib.hid hgrow; clear hown' hgrow; have hcell2 : w2.cell? ⟨g, k, none⟩ = some (.int .i64 (b : Int)) := nats_cell HN1.out HL2.out HA.out)
      go_roundw
      case rel => exact ⟨k + 1, by go_num, by omega, by rw [HC.out], by rw [HT.out]; exact ownStrs_snoc HX.out HO1.out, HN1.out, below_append (k := 0) HB.out HO.out _ HG.out HB.out.size⟩
      case measure => simp [intOf]; omega
    · have hkN : k = (ends s.data.toList).length := by omega
      have HT := Lib.hid (show (pieces s.data.toList).take k = pieces s.data.toList from List.take_of_length_le (by rw [pieces_length]; omega))
      have HO := Lib.hid hown
      have HB := Lib.hid hb
      clear hown hnat hb hkN
      generalize atk s.data.toList 0 k = a at *
      generalize (ends s.data.toList).length = N at *
      go_wp2
      go_ret
      exact ⟨_, rfl, by have h1 := HO.out; rw [HT.out] at h1; exact h1, HB.out⟩
end
end Go.Proofs.Ythefpbnnmfjggaa
