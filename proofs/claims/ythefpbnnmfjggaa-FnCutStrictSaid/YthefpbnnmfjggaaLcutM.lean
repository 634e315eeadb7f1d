/- The law of drawn pieces: pieces are of a text in one way. -/
import Derived.Test.YthefpbnnmfjggaaPieces
import Derived.Test.YthefpbnnmfjggaaLcutL
namespace Go.Proofs.Ythefpbnnmfjggaa
open Go.RowKit
def GavePcs (m z : Nat) (w : World) (e : Ending) (w' : World) : Prop := ∃ (v : Value) (L : List ByteArray), e = .returned v ∧ Lst w' w'.heap.size v (barVals L) ∧ L.length ≤ m ∧ (raws L).flatten.length ≤ z ∧ Below w.heap.size w w'
section
set_option maxHeartbeats 1600000
theorem drawCutJoin_any (a : Option Addr) (len cap : Nat) (zs : List Int) (w : World) (h : Code w a len cap zs) : Calls Try.prog 19 #[.slice a len cap] w (GavePcs 41 48 w) := by
  go_enter Try.func19, Try.ntmps19
  go_wp2_with fail
  refine (open_any a len cap zs w h).mono ?_
  rintro e w1 ⟨rfl, hr, hb⟩
  have HB := Lib.hid hb
  have HR := Lib.hid hr
  clear hb h hr
  go_wp2_with fail
  refine (l91Pieces_any w1 _ 0 HR.out (by omega)).mono ?_
  rintro e w2 ⟨v, L, rfl, hl, hn, hf, hb⟩
  have HL := Lib.hid hl
  have HB2 := Lib.hid (HB.out.trans hb)
  clear hl hb
  go_wp2
  go_ret
  exact ⟨_, L, rfl, HL.out, hn, hf, HB2.out⟩
theorem lawFnCutStrict (a : Option Addr) (len cap : Nat) (zs : List Int) (w : World) (h : Code w a len cap zs) : Calls Try.prog 6 #[.slice a len cap] w fun e w' => e = .returned (.bool true) ∧ Below w.heap.size w w' := by
  by_cases hl : len ≤ 1048576
  · go_enter Try.func6, Try.ntmps6
    go_wp2_with fail
    refine (drawCutJoin_any a len cap zs w h).mono ?_
    rintro e w1 ⟨v, L, rfl, hlst, hn, hf, hb⟩
    have HL := Lib.hid hlst
    have HB := Lib.hid hb
    clear hlst hb h
    go_wp2_with fail
    refine (cutJoinS_any w1 v L HL.out (by omega)).mono ?_
    rintro e w2 ⟨rfl, hb⟩
    have HL2 := Lib.hid (lst_next HL.out hb)
    have HB2 := Lib.hid (bel_trans HB.out hb)
    clear hb
    obtain ⟨y, hy⟩ : ∃ y, (⟨(joinT (raws L)).toArray⟩ : ByteArray) = y := ⟨_, rfl⟩
    have HY := Lib.hid hy
    rw [hy]
    clear hy
    have hys : y.size ≤ 48 := by
      rw [← HY.out]
      show (joinT (raws L)).toArray.size ≤ 48
      unfold joinT
      split
      · simpa using hf
      · simp
    cases hok : joinOk (raws L) with
    | false =>
      have HOK := Lib.hid hok
      clear hok
      go_wp2_with fail
      refine (cutJoin_any w2 v L HL2.out (by omega) (by omega)).mono ?_
      rintro e w3 ⟨rfl, hb⟩
      rw [HY.out, HOK.out]
      have HL3 := Lib.hid (lst_next HL2.out hb)
      have HB3 := Lib.hid (bel_trans HB2.out hb)
      clear hb
      go_wp2_with fail
      refine (cutOk_any w3 v L HL3.out (by omega) (by omega)).mono ?_
      rintro e w4 ⟨rfl, hb⟩
      rw [HOK.out]
      have HB4 := Lib.hid (bel_trans HB3.out hb)
      clear hb
      go_wp2
      go_ret
      exact ⟨rfl, HB4.out⟩
    | true =>
      have HOK := Lib.hid hok
      have HP := Lib.hid (show bars (piecesZ y.data.toList) = L by
        have h1 := hok
        simp only [joinOk, Bool.and_eq_true, decide_eq_true_eq] at h1
        have e : y.data.toList = (raws L).flatten := by rw [← HY.out, joinT_yes hok]
        rw [e, piecesZ_yes h1.1, h1.2, bars_raws])
      clear hok
      go_wp2_with fail
      refine (cutJoin_any w2 v L HL2.out (by omega) (by omega)).mono ?_
      rintro e w3 ⟨rfl, hb⟩
      rw [HY.out, HOK.out]
      have HL3 := Lib.hid (lst_next HL2.out hb)
      have HB3 := Lib.hid (bel_trans HB2.out hb)
      clear hb
      go_wp2_with fail
      refine (cutAll_any y w3 (maxLen_of9 (by omega))).mono ?_
      intro e w4 hg
      obtain ⟨v4, rfl, hlst, hb⟩ := gave_lst hg
      rw [strVals_bars, HP.out] at hlst
      have HL4 := Lib.hid hlst
      have HL34 := Lib.hid (lst_next HL3.out hb)
      have HB4 := Lib.hid (bel_trans HB3.out hb)
      clear hg hlst hb
      go_wp2_with fail
      refine (ldTexts_any w4 w4.heap.size v4 v L L HL4.out HL34.out (by omega) (by omega)).mono ?_
      rintro e w' ⟨rfl, n5, rfl⟩
      rw [show decide (L = L) = true by simp]
      have HL5 : Hid (Lst (w4.drewN n5) (w4.drewN n5).heap.size v (barVals L)) := Lib.hid (lst_drewN HL34.out n5)
      go_wp2_with fail
      refine (cutOk_any (w4.drewN n5) v L HL5.out (by omega) (by omega)).mono ?_
      rintro e w6 ⟨rfl, hb⟩
      rw [HOK.out]
      have HB6 := Lib.hid (bel_trans HB4.out (bel_drew hb))
      clear hb
      go_wp2
      go_ret
      exact ⟨rfl, HB6.out⟩
  · go_enter Try.func6, Try.ntmps6
    go_wp2
    go_ret
    exact ⟨rfl, Below.refl _ _⟩
end
end Go.Proofs.Ythefpbnnmfjggaa
