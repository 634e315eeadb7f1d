/- The law of a piece taken from a drawn pack. -/
import Derived.Test.YtkjginibdablnaaDoorDrawGet
import Derived.Test.YtkjginibdablnaaDoorMkP
import Derived.Test.YtkjginibdablnaaDoorPackGet
import Derived.Test.YtkjginibdablnaaDoorPackGetS
import Derived.Test.YtkjginibdablnaaDoorPackN
import Derived.Test.YtkjginibdablnaaDoorLdPack
namespace Go.Proofs.YtkjginibdablnaaDoor
open Go.RowKit
theorem drew_belG {w w' : World} (h : ∃ n, w' = w.drewN n) : Below w.heap.size w w' := by
  obtain ⟨n, rfl⟩ := h
  exact ⟨rfl, rfl, rfl, Nat.le_refl _, fun _ _ => rfl⟩
theorem two_belG {w w' : World} {b : Nat} {T : TypeId} {x y : Value} (h : Two w b T x y) (hb : Below w.heap.size w w') : Two w' b T x y := (hb.block b h.lt).trans h
theorem getT_size (key : Int) (l : List Itm) (name : Int) (hs : ∀ s ∈ l, s.2.size ≤ 1048576) : (getT key l name).size ≤ maxLen := by
  unfold getT
  cases hf : findI l name with
  | none => show (0 : Nat) ≤ maxLen; exact Nat.zero_le _
  | some x =>
    show (chunkT key x).size ≤ maxLen
    unfold chunkT
    split
    · rw [bar_size]
      have h1 := hs x (List.mem_of_find?_eq_some hf)
      have h2 : (backT x.2.data.toList).length ≤ x.2.data.toList.length := by
        unfold backT
        split
        · exact trimL_size _
        · exact Nat.zero_le _
      have h3 : x.2.data.toList.length = x.2.size := Array.length_toList
      unfold maxLen
      omega
    · exact Nat.zero_le _
theorem get_is {key : Int} {l : List Itm} {name : Int} (h : getB key l name = true) : nameIsB key (getT key l name).data.toList name = true := by
  unfold getB at h
  unfold getT
  cases hf : findI l name with
  | none => rw [hf] at h; cases h
  | some x =>
    rw [hf] at h
    have h1 : chunkB key x = true := h
    have hx : x.1 = name := by
      have := List.find?_some hf
      simpa using this
    show nameIsB key (chunkT key x).data.toList name = true
    unfold chunkT
    rw [if_pos h1, bar_toList]
    unfold chunkB at h1
    rw [Bool.and_eq_true] at h1
    rw [← hx]
    exact h1.2
theorem get_in {key no : Int} {l : List Itm} (name : Int) (h : packB key no l = true) : getB key l name = (names l).contains name := by
  unfold getB
  cases hf : findI l name with
  | none =>
    have h1 := List.find?_eq_none.1 hf
    symm
    show (names l).contains name = false
    cases hc : (names l).contains name with
    | false => rfl
    | true =>
      rw [List.contains_iff_mem] at hc
      obtain ⟨x, hx, he⟩ := List.mem_map.1 hc
      have := h1 x hx
      simp at this
      exact absurd he this
  | some x =>
    have hx := List.mem_of_find?_eq_some hf
    have hn : x.1 = name := by
      have := List.find?_some hf
      simpa using this
    show chunkB key x = _
    rw [chunk_is, (packB_parts h).2.1, packB_right h hx]
    symm
    show (names l).contains name = true
    rw [List.contains_iff_mem]
    exact List.mem_map.2 ⟨x, hx, hn⟩
section
set_option maxHeartbeats 3200000
set_option maxRecDepth 100000
theorem lawFnPackGet (a : Option Addr) (len cap : Nat) (zs : List Int) (w : World) (h : Code w a len cap zs) (a0 a1 : Addr) (he : Errs w a0 a1) :
    Calls Tryd.prog 7 #[.slice a len cap] w fun e w' => e = .returned (.bool true) ∧ Below w.heap.size w w' := by
  have HE := Lib.hid he
  clear he
  by_cases hlen : len ≤ 1048576
  · go_enter Tryd.func7, Tryd.ntmps7
    go_wp2_with fail
    refine (drawPackGet_any a len cap zs w h).mono ?_
    rintro e w1 ⟨key, no, name, v, l, rfl, ho, h1, h6, hsz, hb⟩
    obtain ⟨A, c, hv⟩ := own_formP ho
    subst hv
    rw [ivals_length] at ho ⊢
    obtain ⟨m, hm⟩ : ∃ m, l.length = m := ⟨_, rfl⟩
    have HM := Lib.hid hm
    rw [hm] at ho h1 h6 ⊢
    obtain ⟨W2, hW2⟩ : ∃ X, X = w1.alloc (.cells #[.int .i64 no, .slice A m c] 29) := ⟨_, rfl⟩
    have hb2 : Below w1.heap.size w1 W2 := by rw [hW2]; exact (Below.refl _ _).alloc (Nat.le_refl _) _
    have HT2 := Lib.hid (show Two W2 w1.heap.size 29 (.int .i64 no) (.slice A m c) by rw [hW2]; exact two_new _ _ _ _)
    have HP2 := Lib.hid (lp_next (lp_of_own ho) hb2)
    have HB2 := Lib.hid (bel2 hb hb2)
    have HSZ := Lib.hid (show ∀ s ∈ l, s.2.size ≤ 1048576 from fun s hs => by have := hsz s hs; omega)
    have HW2 := Lib.hid hW2
    obtain ⟨b4, hb4⟩ : ∃ b, w1.heap.size = b := ⟨_, rfl⟩
    rw [hb4] at HT2
    obtain ⟨gb, hgb⟩ : ∃ x, getB key l name = x := ⟨_, rfl⟩
    obtain ⟨gt, hgt⟩ : ∃ x, getT key l name = x := ⟨_, rfl⟩
    have HGB := Lib.hid hgb
    have HGT := Lib.hid hgt
    have HGS := Lib.hid (fun (X : World) (hX : Below W2.heap.size W2 X) => packGetS_any key no name _ l X (lp_next HP2.out hX) (by rw [HM.out]; omega) HSZ.out)
    have HGI := Lib.hid (fun (X : World) (hX : Below W2.heap.size W2 X) => packGet_any key no name _ l X a0 a1 (HE.out.below (bel2 HB2.out hX)) (lp_next HP2.out hX) (by rw [HM.out]; omega) HSZ.out)
    unfold Got at HGS HGI
    simp only [hgb, hgt] at HGS HGI
    have HOK := Lib.hid (fun (X : World) (hX : Below W2.heap.size W2 X) => packOk_any key no _ l X a0 a1 (HE.out.below (bel2 HB2.out hX)) (lp_next HP2.out hX) (by rw [HM.out]; omega) HSZ.out)
    have HSt := Lib.hid (fun (X : World) (hX : Below W2.heap.size W2 X) => two_belG HT2.out hX)
    have hgg : (gt.toList != gt.toList) = false := by simp
    have hbb : (gb != gb) = false := by simp
    have hgs : gt.size ≤ maxLen := by
      rw [← hgt]
      exact getT_size key l name HSZ.out
    clear h ho hsz hb hb2 hW2 hm hgb hgt
    go_wp2_with fail
    rw [← HW2.out]
    clear hb4
    refine (HGS.out W2 (Below.refl _ _)).mono ?_
    rintro e w3 ⟨rfl, hb3⟩
    have HB3 := Lib.hid hb3
    have p0 := (HSt.out w3 hb3).c0
    have p1 := (HSt.out w3 hb3).c1
    clear hb3
    go_wp2_with fail
    refine (HGI.out w3 HB3.out).mono ?_
    rintro e w4 ⟨rfl, hb4⟩
    have HB4 := Lib.hid (bel2 HB3.out hb4)
    clear hb4 p0 p1
    obtain ⟨pb, hpb⟩ : ∃ pb, packB key no l = pb := ⟨_, rfl⟩
    have HPB := Lib.hid hpb
    rw [hpb] at HOK
    clear hpb
    cases gb with
    | false =>
      have p0 := (HSt.out w4 HB4.out).c0
      have p1 := (HSt.out w4 HB4.out).c1
      go_wp2_with fail
      refine (HOK.out w4 HB4.out).mono ?_
      rintro e w5 ⟨rfl, hb5⟩
      have HB5 := Lib.hid (bel2 HB4.out hb5)
      clear hb5 p0 p1
      cases pb with
      | false =>
        go_wp2
        go_ret
        exact ⟨rfl, bel2 HB2.out HB5.out⟩
      | true =>
        have hc := (get_in name HPB.out).symm.trans HGB.out
        have HC := Lib.hid hc
        have p0 := (HSt.out w5 HB5.out).c0
        have p1 := (HSt.out w5 HB5.out).c1
        clear hc
        go_wp2_with fail
        refine (packNames_any w5 no _ l (lp_next HP2.out HB5.out) (by rw [HM.out]; omega)).mono ?_
        rintro e w6 ⟨v6, rfl, ho6, hb6⟩
        have HB6 := Lib.hid (bel2 HB5.out hb6)
        have HO6 := Lib.hid (lst_of_own ho6)
        clear ho6 hb6 p0 p1
        go_wp2_with fail
        refine (ldIn_any w6 w6.heap.size v6 (names l) name HO6.out (by rw [names_length, HM.out]; omega)).mono ?_
        rw [HC.out]
        rintro e w7 ⟨rfl, rfl⟩
        go_wp2
        go_ret
        exact ⟨rfl, bel2 HB2.out HB6.out⟩
    | true =>
      have hni : nameIsB key gt.data.toList name = true := by
        have := get_is HGB.out
        rwa [HGT.out] at this
      have HNI := Lib.hid (nameIs_any key gt name w4 a0 a1 (HE.out.below (bel2 HB2.out HB4.out)) hgs)
      rw [hni] at HNI
      clear hni
      go_wp2_with fail
      refine HNI.out.mono ?_
      rintro e w5 ⟨rfl, hq⟩
      have HB5 := Lib.hid (bel2 HB4.out (drew_belG hq))
      clear hq
      have p0 := (HSt.out w5 HB5.out).c0
      have p1 := (HSt.out w5 HB5.out).c1
      go_wp2_with fail
      refine (HOK.out w5 HB5.out).mono ?_
      rintro e w6 ⟨rfl, hb6⟩
      have HB6 := Lib.hid (bel2 HB5.out hb6)
      clear hb6 p0 p1
      cases pb with
      | false =>
        go_wp2
        go_ret
        exact ⟨rfl, bel2 HB2.out HB6.out⟩
      | true =>
        have hc := (get_in name HPB.out).symm.trans HGB.out
        have HC := Lib.hid hc
        have p0 := (HSt.out w6 HB6.out).c0
        have p1 := (HSt.out w6 HB6.out).c1
        clear hc
        go_wp2_with fail
        refine (packNames_any w6 no _ l (lp_next HP2.out HB6.out) (by rw [HM.out]; omega)).mono ?_
        rintro e w7 ⟨v7, rfl, ho7, hb7⟩
        have HB7 := Lib.hid (bel2 HB6.out hb7)
        have HO7 := Lib.hid (lst_of_own ho7)
        clear ho7 hb7 p0 p1
        go_wp2_with fail
        refine (ldIn_any w7 w7.heap.size v7 (names l) name HO7.out (by rw [names_length, HM.out]; omega)).mono ?_
        rw [HC.out]
        rintro e w8 ⟨rfl, rfl⟩
        go_wp2
        go_ret
        exact ⟨rfl, bel2 HB2.out HB7.out⟩
  · go_enter Tryd.func7, Tryd.ntmps7
    go_wp2_with fail
    go_ret
    exact ⟨rfl, Below.refl _ _⟩
end
end Go.Proofs.YtkjginibdablnaaDoor
