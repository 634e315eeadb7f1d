/- The drawings of pieces. -/
import Derived.Test.YthefpbnnmfjggaaDraw
import Derived.Test.YthefpbnnmfjggaaJoin
import Derived.Deep.RegionHeld3
import Derived.Deep.AppendLies
namespace Go.Proofs.Ythefpbnnmfjggaa
open Go.RowKit
theorem own_pickS {B r n : Nat} {e : TypeId} {w w' : World} {v : Value} {xs : List Value} (h : w.ownsRow B e 1 v n xs) (hg : w.grownBy w' (some r)) (hr : r < B) : w'.ownsRow B e 1 v n xs :=
  h.kept hg (by
    cases e2 : v.ownBlock with
    | none => exact .inl rfl
    | some g => right; intro e3; injection e3 with e3; have := (h.lt g e2).1; omega)
theorem own_lessS {B B' n : Nat} {e : TypeId} {w : World} {v : Value} {xs : List Value} (h : w.ownsRow B e 1 v n xs) (hB : B' ≤ B) : w.ownsRow B' e 1 v n xs := by
  refine ⟨h.1, ?_⟩
  rcases h.2 with h2 | ⟨g, cap, cur, hv, hb, rest⟩
  · exact .inl h2
  · exact .inr ⟨g, cap, cur, hv, by omega, rest⟩
theorem gb_belowS {B r : Nat} {a w : World} (h : a.grownBy w (some r)) (hB : B ≤ r) (hs : B ≤ a.heap.size) : Below B a w := ⟨h.os, h.tape, h.output, h.size, fun i hi => h.block i (by omega) (fun e => by cases e; omega)⟩
theorem infoStr : (Try.prog.info? 9).map (fun i => (i.zero, i.size, i.bytes)) = some (some (.string ByteArray.empty), 1, 16) := by kernel_rfl
theorem infoStr_parts : ∃ i0, Try.prog.info? 9 = some i0 ∧ i0.zero = some (.string ByteArray.empty) ∧ i0.size = 1 ∧ i0.bytes = 16 := by
  obtain ⟨i0, hi, hzz⟩ := Option.map_eq_some_iff.1 infoStr
  simp only [Prod.mk.injEq] at hzz
  exact ⟨i0, hi, hzz⟩
theorem barVals_append (l m : List ByteArray) : barVals (l ++ m) = barVals l ++ barVals m := by simp [barVals]
theorem barVals_one (l : List ByteArray) : ∀ u ∈ barVals l, u.oneCell' = true := fun u hu => by
  obtain ⟨s, _, rfl⟩ := List.mem_map.1 hu
  rfl
theorem add_atS (g off n : Nat) : (⟨g, off, none⟩ : Addr).add n = ⟨g, off + n, none⟩ := by
  unfold Addr.add
  split
  · subst_vars; rfl
  · rfl
/-- from AD on lie the cells of xs -/
def NewsS (w : World) (AD : Addr) (xs : List ByteArray) : Prop := ∀ j u, (barVals xs)[j]? = some u → (AD.add j).block < w.heap.size ∧ w.cell? (AD.add j) = some u
theorem lst_drop {w : World} {n c k : Nat} {ad AD : Addr} {l : List ByteArray} (h : Lst w w.heap.size (.slice (some ad) n c) (barVals l)) (hAD : k < l.length → AD = ad.add k) : NewsS w AD (l.drop k) := by
  intro j u hj
  have hj2 : j < (barVals (l.drop k)).length := (List.getElem?_eq_some_iff.1 hj).1
  rw [barVals_length, List.length_drop] at hj2
  have hu : (barVals l)[k + j]? = some u := by
    rw [barVals, List.map_drop, List.getElem?_drop] at hj
    exact hj
  obtain ⟨g, off, hA, hg, hcell⟩ := lst_at h hu
  cases hA
  rw [hAD (by omega), add_atS, add_atS]
  exact ⟨hg, by rw [show off + k + j = off + (k + j) by omega]; exact hcell⟩
theorem newsS_drop {w : World} {n c k : Nat} {ad AD : Addr} {l : List ByteArray} (h : Lst w w.heap.size (.slice (some ad) n c) (barVals l)) (hc : l.length ≤ c) (hAD : (if c = k then some ad else some (ad.add k)) = some AD) : NewsS w AD (l.drop k) := by
  refine lst_drop h fun hk => ?_
  rw [if_neg (by omega)] at hAD
  injection hAD with hAD
  exact hAD.symm
theorem newsS_take {w : World} {n c : Nat} {ad : Addr} {l : List ByteArray} (h : Lst w w.heap.size (.slice (some ad) n c) (barVals l)) (k : Nat) : NewsS w ad (l.take k) := by
  have h0 : NewsS w ad (l.drop 0) := lst_drop h fun h0 => by
    obtain ⟨g, off, hA, _⟩ := lst_at h (barVals_get l 0 l[0] (List.getElem?_eq_getElem h0))
    cases hA
    rfl
  intro j u hj
  refine h0 j u ?_
  rw [List.drop_zero]
  have hj2 : j < (barVals (l.take k)).length := (List.getElem?_eq_some_iff.1 hj).1
  rw [barVals_length, List.length_take] at hj2
  rw [barVals, List.map_take, List.getElem?_take_of_lt (by omega)] at hj
  exact hj
/-- since w a slice of its own has been laid, of the strings l -/
def GrewS (w W : World) (v : Value) (l : List ByteArray) : Prop := W.ownsRow w.heap.size 9 1 v l.length (barVals l) ∧ Below w.heap.size w W
theorem step_append_bar (w W : World) {ops : Array Oper} {o : Oper} {a : Act} {K : Act → World → Prop} {Q : Exit → Act → World → Prop} {E : Prop} (hgd : o.guard = none) (s x : Operand)
    (ho : o.op = .call { callee := .builtin .append, args := #[s, x], argTypes := #[22, 22] })
    (v : Value) (l1 : List ByteArray) (hs : a.eval s = v) (hgr : GrewS w W v l1) (ad : Addr) (m c : Nat) (l2 : List ByteArray) (hx : a.eval x = .slice (some ad) m c) (hm : l2.length = m)
    (hnews : ∀ j u, (barVals l2)[j]? = some u → W.cell? (ad.add j) = some u) (hl : l1.length + m ≤ 1000) (h : ∀ v' w', GrewS w w' v' (l1 ++ l2) → W.grownBy w' v.ownBlock → K (a.put o.dst v') w') :
    if Region.wanted o (yielded ops a.tmps) = true then Oper.wp Try.prog o a W K Q else E := by
  have hw : Region.wanted o (yielded ops a.tmps) = true := by simp [Region.wanted, hgd]
  rw [if_pos hw]
  obtain ⟨i0, hi, hz0, hz1, hz2⟩ := infoStr_parts
  obtain ⟨hown, hb⟩ := hgr
  subst hm
  obtain ⟨v', w', hr, h2, h3, h4, h5⟩ := run_append_own_at (P := Try.prog) W w.heap.size 22 o.type 9 i0 (.string ByteArray.empty) 1 16 Try.underlying22 hi hz0 hz1 hz2 rfl (by decide)
    v l1.length (barVals l1) hown ad l2.length c (barVals l2) (by rw [barVals_length]; omega) hnews (barVals_one l2) (by unfold maxLen; omega) (by omega) hb.size
  unfold Oper.wp execOp
  simp only [ho, resolve, invoke, builtin, Sem.run_bind, Sem.run_pure, Result.andThen_ok, List.map_toArray, List.map_cons, List.map_nil, hs, hx, hr]
  refine h v' w' ⟨?_, hb.grown h3 hb.size fun g hg => (hown.lt g hg).1⟩ h3
  rw [barVals_append, List.length_append]
  exact h2
theorem newsIn {w W : World} {ad : Addr} {l : List ByteArray} (h : NewsS w ad l) (hb : Below w.heap.size w W) : ∀ j u, (barVals l)[j]? = some u → W.cell? (ad.add j) = some u := fun j u hu => by
  obtain ⟨h1, h2⟩ := h j u hu
  rw [hb.cell (p := ad.add j) h1]
  exact h2
theorem cell_al {w : World} {a : Addr} {v : Value} (h : w.cell? a = some v) (o : Obj) : (w.alloc o).cell? a = some v := by
  refine (World.cell?_alloc_lt w o a ?_).trans h
  rcases Nat.lt_or_ge a.block w.heap.size with h' | h'
  · exact h'
  · simp [World.cell?, Array.getElem?_eq_none h'] at h
theorem below_al (w : World) (o : Obj) : Below w.heap.size w (w.alloc o) := (Below.refl _ _).alloc (Nat.le_refl _) _
theorem grewS_1 (w : World) : GrewS w (w.alloc (.cells #[] 9)).drew (.slice (some ⟨w.heap.size, 0, none⟩) 0 0) [] :=
  ⟨World.ownsRow_lit w #[] 0 (Nat.le_refl _) (by unfold maxLen; omega) rfl, (by have h := below_al w (.cells #[] 9); exact ⟨h.os, h.tape, h.output, h.size, h.block⟩)⟩
theorem grewS_2 (w : World) (o : Obj) : GrewS w ((w.alloc (.cells #[] 9)).alloc o).drew (.slice (some ⟨w.heap.size, 0, none⟩) 0 0) [] := by
  have h0 : (w.alloc (.cells #[] 9)).ownsRow w.heap.size 9 1 (.slice (some ⟨w.heap.size, 0, none⟩) 0 0) 0 [] := World.ownsRow_lit w #[] 0 (Nat.le_refl _) (by unfold maxLen; omega) rfl
  have h : Below w.heap.size w ((w.alloc (.cells #[] 9)).alloc o) := (below_al w _).alloc (by simp) _
  exact ⟨h0.alloc o, ⟨h.os, h.tape, h.output, h.size, h.block⟩⟩
theorem grewS_3 (w : World) (o : Obj) : GrewS w ((w.alloc o).alloc (.cells #[] 9)).drew (.slice (some ⟨w.heap.size + 1, 0, none⟩) 0 0) [] := by
  have h0 : ((w.alloc o).alloc (.cells #[] 9)).ownsRow (w.alloc o).heap.size 9 1 (.slice (some ⟨(w.alloc o).heap.size, 0, none⟩) 0 0) 0 [] := World.ownsRow_lit (w.alloc o) #[] 0 (Nat.le_refl _) (by unfold maxLen; omega) rfl
  have h : Below w.heap.size w ((w.alloc o).alloc (.cells #[] 9)) := (below_al w _).alloc (by simp) _
  have e : (w.alloc o).heap.size = w.heap.size + 1 := by simp
  rw [e] at h0
  exact ⟨own_lessS h0 (by omega), ⟨h.os, h.tape, h.output, h.size, h.block⟩⟩
theorem grewS_al {w W : World} {v : Value} {l : List ByteArray} (h : GrewS w W v l) (o : Obj) : GrewS w (W.alloc o) v l := ⟨h.1.alloc o, h.2.alloc h.2.size o⟩
theorem zcell_1 (w : World) (z : ByteArray) (T : TypeId) : ∀ j u, (barVals [z])[j]? = some u → (w.alloc (.cells #[.string z] T)).cell? ((⟨w.heap.size, 0, none⟩ : Addr).add j) = some u := by
  intro j u hj
  match j, hj with
  | 0, hj =>
    rw [add_atS, cell_of_row _ _ _ _ _ (0, 0) (heap_alloc_new w _)]
    simpa [barVals] using hj
  | j + 1, hj => simp [barVals] at hj
theorem zcell_of {W : World} {z : ByteArray} {g : Nat} (h : W.cell? ⟨g, 0, none⟩ = some (.string z)) : ∀ j u, (barVals [z])[j]? = some u → W.cell? ((⟨g, 0, none⟩ : Addr).add j) = some u := by
  intro j u hj
  match j, hj with
  | 0, hj =>
    rw [add_atS]
    have : u = .string z := by simpa [barVals] using hj.symm
    rw [this]
    exact h
  | j + 1, hj => simp [barVals] at hj
theorem zcell_2 {w w5 : World} {o : Obj} {z : ByteArray} {T : TypeId} (h : ((w.alloc o).alloc (.cells #[.string z] T)).drew.grownBy w5 (some w.heap.size)) : w5.cell? ⟨w.heap.size + 1, 0, none⟩ = some (.string z) := by
  rw [h.cell_far ⟨w.heap.size + 1, 0, none⟩ (by simp [World.drew]) (by simp)]
  show ((w.alloc o).alloc (.cells #[.string z] T)).cell? ⟨w.heap.size + 1, 0, none⟩ = _
  have e : (w.alloc o).heap.size = w.heap.size + 1 := by simp
  rw [← e, cell_of_row _ _ _ _ _ (0, 0) (heap_alloc_new (w.alloc o) _)]
  rfl
theorem zcell_3 {w w5 : World} {o : Obj} {z : ByteArray} {T : TypeId} (h : ((w.alloc (.cells #[.string z] T)).alloc o).drew.grownBy w5 (some (w.heap.size + 1))) : w5.cell? ⟨w.heap.size, 0, none⟩ = some (.string z) := by
  rw [h.cell_far ⟨w.heap.size, 0, none⟩ (by simp [World.drew]; omega) (by simp)]
  show ((w.alloc (.cells #[.string z] T)).alloc o).cell? ⟨w.heap.size, 0, none⟩ = _
  refine cell_al ?_ o
  rw [cell_of_row _ _ _ _ _ (0, 0) (heap_alloc_new w _)]
  rfl
theorem merge_flat {l : List ByteArray} {k : Nat} {x y : ByteArray} (hx : l[k]? = some x) (hy : l[k + 1]? = some y) : (raws (l.take k ++ [x ++ y] ++ l.drop (k + 2))).flatten = (raws l).flatten := by
  have e : l = l.take k ++ x :: y :: l.drop (k + 2) := by
    have hk := (List.getElem?_eq_some_iff.1 hy).1
    rw [← List.take_append_drop k l]
    congr 1
    · simp
    · rw [List.take_append_drop, List.drop_eq_getElem_cons (by omega), List.drop_eq_getElem_cons hk]
      obtain ⟨h1, h2⟩ := List.getElem?_eq_some_iff.1 hx
      obtain ⟨h3, h4⟩ := List.getElem?_eq_some_iff.1 hy
      rw [h2, h4]
  conv => rhs; rw [e]
  simp [raws]
theorem own_al {w : World} {B n : Nat} {e : TypeId} {v : Value} {xs : List Value} (h : w.ownsRow B e 1 v n xs) (o : Obj) : (w.alloc o).ownsRow B e 1 v n xs := h.alloc o
theorem flat_mem : ∀ {l : List ByteArray} {s : ByteArray}, s ∈ l → s.size ≤ (raws l).flatten.length
  | t :: l, s, h => by
    have e : (raws (t :: l)).flatten.length = t.size + (raws l).flatten.length := by simp [raws]
    rcases List.mem_cons.1 h with rfl | h
    · omega
    · have := flat_mem h
      omega
theorem maxLen_of9P {s : ByteArray} (h : s.size ≤ 1000000000) : s.size ≤ maxLen := by unfold maxLen; omega
theorem piecesZ_len40P (l : List UInt8) : (piecesZ l).length ≤ 40 := by
  cases h : textB l with
  | false => rw [piecesZ_no h]; simp
  | true =>
    rw [piecesZ_yes h, pieces_length]
    simp only [textB, Bool.and_eq_true, decide_eq_true_eq] at h
    have h1 := (endsAt_length (l := l) 0).1
    show (endsAt l 0).length ≤ 40
    omega
theorem piecesZ_flatP {s : ByteArray} (h : s.size ≤ 45) : (piecesZ s.data.toList).flatten.length ≤ 45 := by
  cases ht : textB s.data.toList with
  | false => rw [piecesZ_no ht]; simp
  | true => rw [piecesZ_yes ht, pieces_join]; simpa using h
section
set_option maxHeartbeats 4000000
theorem l91Pieces_any (w : World) (r K : Nat) (h : Rd w r K) (hK : K ≤ 70000) : Calls Try.prog 29 #[.pointer (some ⟨r, 0, none⟩)] w fun e w' => ∃ (v : Value) (L : List ByteArray), e = .returned v ∧ Lst w' w'.heap.size v (barVals L) ∧ L.length ≤ 41 ∧ (raws L).flatten.length ≤ 48 ∧ Below r w w' := by
  have hrw := h.lt
  have HR := Lib.hid h
  clear h
  obtain ⟨i0, hi, hz0, hz1, hz2⟩ := infoStr_parts
  go_enter Try.func29, Try.ntmps29
  go_wp2_with fail
  refine (l91Text_any w r K HR.out (by omega)).mono ?_
  rintro e w1 ⟨s, rfl, hs, hr1, hg1⟩
  have HR1 := Lib.hid hr1
  have HG1 := Lib.hid hg1
  have hs45 : s.size ≤ 45 := hs
  have HM := Lib.hid (maxLen_of9P (show s.size ≤ 1000000000 by omega))
  clear hs hr1 hg1
  go_wp2_with fail
  refine (cutAllS_any s _ HM.out).mono ?_
  rintro e w2 ⟨v, rfl, ho, hb⟩
  rw [strVals_bars] at ho
  obtain ⟨L, hL⟩ : ∃ L, bars (piecesZ s.data.toList) = L := ⟨_, rfl⟩
  have hLn : L.length ≤ 40 := by rw [← hL, bars_length]; exact piecesZ_len40P _
  have HF := Lib.hid (show (raws L).flatten.length ≤ 45 by rw [← hL, raws_bars]; exact piecesZ_flatP hs45)
  rw [hL, barVals_length] at ho
  have hsz : w.heap.size ≤ w1.heap.size := HG1.out.size
  have HO := Lib.hid ho
  have HR2 := Lib.hid (HR1.out.below hb (by omega))
  have HB2 := Lib.hid (show Below r w w2 from (gb_belowS HG1.out (Nat.le_refl _) (by omega)).trans (hb.mono (by omega)))
  have hsz2 : w1.heap.size ≤ w2.heap.size := hb.size
  clear hL ho hb
  obtain ⟨A, c, rfl⟩ : ∃ A c, v = .slice A L.length c := by
    have h := lst_of_own HO.out
    obtain ⟨A, c, hv, _⟩ := h
    rw [barVals_length] at hv
    exact ⟨A, c, hv⟩
  obtain ⟨n, hn⟩ : ∃ n, L.length = n := ⟨_, rfl⟩
  have HN := Lib.hid hn
  have HO2 : Hid (w2.ownsRow w1.heap.size 9 1 (.slice A n c) n (barVals L)) := by have h := HO.out; rw [hn] at h; exact Lib.hid h
  rw [hn] at hLn ⊢
  clear HO hn
  by_cases h1 : 1 < n
  · have hi1 : (1 : Int) < (n : Int) := by omega
    go_wp2_with fail
    refine (pick_any 5 _ r _ HR2.out (by omega) (by omega)).mono ?_
    rintro e w3 ⟨x, rfl, hx, _, hr3, hg3⟩
    have HR3 := Lib.hid hr3
    have HO3 := Lib.hid (own_pickS HO2.out hg3 (by omega))
    have HB3 := Lib.hid (HB2.out.trans (gb_belowS hg3 (Nat.le_refl _) (by omega)))
    have hsz3 : w1.heap.size ≤ w3.heap.size := Nat.le_trans hsz2 hg3.size
    clear hx hr3 hg3
    by_cases q : x = 0
    · subst q
      go_wp2_with fail
      refine (pick_any ((n : Int) - 1) _ r _ HR3.out (by omega) (by omega)).mono ?_
      rintro e w4 ⟨k, rfl, hx, _, _, hg4⟩
      have hk1 : k + 1 < n := by have := hx (by omega); omega
      have HO4 := Lib.hid (own_pickS HO3.out hg4 (by omega))
      have HB4 := Lib.hid (HB3.out.trans (gb_belowS hg4 (Nat.le_refl _) (by omega)))
      have hsz4 : w1.heap.size ≤ w4.heap.size := Nat.le_trans hsz3 hg4.size
      clear hx hg4
      have HL4 := Lib.hid (lst_of_own HO4.out)
      obtain ⟨x, hx⟩ : ∃ x, L[k]? = some x := ⟨_, List.getElem?_eq_getElem (by have := HN.out; omega)⟩
      obtain ⟨y, hy⟩ : ∃ y, L[k + 1]? = some y := ⟨_, List.getElem?_eq_getElem (by have := HN.out; omega)⟩
      obtain ⟨g, off, rfl, hg, hc1⟩ := lst_at HL4.out (barVals_get _ _ _ hx)
      obtain ⟨g2, off2, hA2, hg2, hc2⟩ := lst_at HL4.out (barVals_get _ _ _ hy)
      cases hA2
      have hcap : L.length ≤ c := by
        obtain ⟨A', c', hv, h2, _⟩ := HL4.out
        cases hv
        rw [barVals_length] at h2
        exact h2
      have HX := Lib.hid hx
      have HY := Lib.hid hy
      have HMF := Lib.hid (merge_flat hx hy)
      have hxs : x.size ≤ 45 := by have h1 := flat_mem (List.mem_of_getElem? hx); have := HF.out; omega
      have hys : y.size ≤ 45 := by have h1 := flat_mem (List.mem_of_getElem? hy); have := HF.out; omega
      clear hx hy
      obtain ⟨z, hz⟩ : ∃ z, x ++ y = z := ⟨_, rfl⟩
      obtain ⟨AD, hAD⟩ : ∃ AD, (if c = k + 2 then some (⟨g, off, none⟩ : Addr) else some ((⟨g, off, none⟩ : Addr).add (k + 2))) = some AD := by
        by_cases e : c = k + 2
        · exact ⟨_, if_pos e⟩
        · exact ⟨_, if_neg e⟩
      have HN1 := Lib.hid (newsS_take HL4.out k)
      have HN3 := Lib.hid (newsS_drop HL4.out hcap hAD)
      have hAD2 : (if c = k + 2 then some (⟨g, off, none⟩ : Addr) else some ⟨g, off + (k + 2), none⟩) = some AD := by rw [← hAD, add_atS]
      have hnc : n ≤ c := by rw [← HN.out]; exact hcap
      have q0 : (0 : Int) ≤ (k : Int) := by omega
      have q1 : (k : Int) ≤ (c : Int) := by omega
      have q2 : IntKind.i64.wrap ((k : Int) + 1) = (k : Int) + 1 := IntWalk.i64_in _ (by omega)
      have q3 : IntKind.i64.wrap ((k : Int) + 2) = (k : Int) + 2 := IntWalk.i64_in _ (by omega)
      have q4 : (k : Int) < (n : Int) := by omega
      have q5 : (k : Int) + 1 < (n : Int) := by omega
      have q6 : (0 : Int) ≤ (k : Int) + 1 := by omega
      have q7 : (0 : Int) ≤ (k : Int) + 2 := by omega
      have q8 : (k : Int) + 2 ≤ (n : Int) := by omega
      have q9 : (n : Int) ≤ (c : Int) := by omega
      have q10 : (k : Int) + 2 ≤ (c : Int) := by omega
      have q11 : ((k : Int) + 2).toNat = k + 2 := by omega
      have hng : ¬ (9223372036854775807 < x.size + y.size) := by omega
      go_wp2_with fail
      have hl3 : (L.take k ++ [z]).length + (n - (k + 2)) ≤ 1000 := by simp only [List.length_append, List.length_take, HN.out, List.length_cons, List.length_nil]; omega
      go_region_held3 (fun w' => w'.cell? ⟨g, off + k, none⟩ = some (.string x) ∧ w'.cell? ⟨g, off + (k + 1), none⟩ = some (.string y)) ((refine ⟨?_, ?_⟩ <;> first | assumption | exact cell_al (by assumption) _ | exact cell_al (cell_al (by assumption) _) _))
        (first
          | (refine step_append_bar w4 _ (by rfl) (.tmp 21) (.tmp 24) (by rfl) _ [] (by rfl) (by first | exact grewS_1 w4 | exact grewS_2 w4 _ | exact grewS_3 w4 _) _ _ _ (L.take k) (by rfl) (by rw [List.length_take, HN.out]; omega) (by first | exact newsIn HN1.out (grewS_1 w4).2 | exact newsIn HN1.out (grewS_2 w4 _).2 | exact newsIn HN1.out (grewS_3 w4 _).2) (by simp; omega) ?_; intro v5 w5 hg5 hgr5; have HG5 := Lib.hid hg5; have k1 := (HG5.out.2.cell (p := ⟨g, off + k, none⟩) hg).trans hc1; have k2 := (HG5.out.2.cell (p := ⟨g, off + (k + 1), none⟩) hg).trans hc2; clear hg5)
          | (refine step_append_bar w4 _ (by rfl) (.tmp 25) (.tmp 36) (by rfl) _ (L.take k) (by rfl) (by first | exact HG5.out | exact grewS_al HG5.out _) _ _ _ [z] (by rfl) (by rfl) (by first | exact zcell_1 _ z _ | exact zcell_of (zcell_2 hgr5) | exact zcell_of (zcell_3 hgr5)) (by rw [List.length_take, HN.out]; omega) ?_; intro v6 w6 hg6 hgr6; have HG6 := Lib.hid hg6; clear hg6 hgr6; have k3 := (HG6.out.2.cell (p := ⟨g, off + k, none⟩) hg).trans hc1; have k4 := (HG6.out.2.cell (p := ⟨g, off + (k + 1), none⟩) hg).trans hc2)
          | (refine step_append_bar w4 _ (by rfl) (.tmp 37) (.tmp 41) (by rfl) _ (L.take k ++ [z]) (by rfl) HG6.out _ _ _ (L.drop (k + 2)) (by rfl) (by rw [List.length_drop, HN.out]) (newsIn HN3.out HG6.out.2) hl3 ?_; intro v7 w7 hg7 hgr7; have HG7 := Lib.hid hg7; clear hg7 hgr7; have k5 := (HG7.out.2.cell (p := ⟨g, off + k, none⟩) hg).trans hc1; have k6 := (HG7.out.2.cell (p := ⟨g, off + (k + 1), none⟩) hg).trans hc2))
      all_goals
        go_wp2
        go_ret
        refine ⟨_, _, rfl, lst_of_own HG7.out.1, ?_, ?_, HB4.out.trans (HG7.out.2.mono (by omega))⟩
        · rw [List.length_append, List.length_append, List.length_take, List.length_drop, HN.out]; simp; omega
        · rw [← hz, HMF.out]; have := HF.out; omega
    · have b3 : ((x : Int) == 0) = false := beq_eq_false_iff_ne.2 (by omega)
      clear q
      go_wp2_with fail
      refine (pick_any 8 _ r _ HR3.out (by omega) (by omega)).mono ?_
      rintro e w8 ⟨x8, rfl, _, _, hr8, hg8⟩
      have HR8 := Lib.hid hr8
      have HO8 := Lib.hid (own_pickS HO3.out hg8 (by omega))
      have HB8 := Lib.hid (HB3.out.trans (gb_belowS hg8 (Nat.le_refl _) (by omega)))
      have hsz8 : w1.heap.size ≤ w8.heap.size := Nat.le_trans hsz3 hg8.size
      clear hr8 hg8
      by_cases q8 : x8 = 0
      · subst q8
        go_wp2_with fail
        refine (of_lit (Short 3) 4 _ w8 r _ HR8.out (by omega) (by omega) (by omega) rfl (by intro v hv; simp at hv; rcases hv with rfl | rfl | rfl | rfl <;> exact ⟨_, rfl, by unfold Short; decide⟩)).mono ?_
        rintro e w9 ⟨y, rfl, hy, _, hg9⟩
        have hy3 : y.size ≤ 3 := hy
        have HO9 := Lib.hid (own_pickS HO8.out hg9 (by omega))
        have HB9 := Lib.hid (HB8.out.trans (gb_belowS hg9 (Nat.le_refl _) (by omega)))
        have hsz9 : w1.heap.size ≤ w9.heap.size := Nat.le_trans hsz8 hg9.size
        clear hy hg9
        go_wp2_with (at_builtin; refine wpList_append_own _ rfl _ _ 22 rfl w1.heap.size 9 i0 (.string ByteArray.empty) 1 16 Try.underlying22 hi hz0 hz1 hz2 rfl (by decide) _ _ _ rfl (own_al HO9.out _) _ 1 1 [.string y] rfl rfl (fun j u hu => zcell_1 w9 y 9 j u hu) (by simp [Value.oneCell']) (by unfold maxLen; omega) (by omega) (by simp; omega) ?_; intro v10 w10 hown' hgrow _; have HO10 := Lib.hid hown'; have HG10 := Lib.hid hgrow; clear hown' hgrow)
        have HB10 := Lib.hid (show Below r w w10 from (HB9.out.alloc (by omega) (.cells #[.string y] 9)).grown HG10.out (by simp; omega) (fun g hg => by have := (HO9.out.lt g hg).1; omega))
        go_wp2
        go_ret
        refine ⟨_, L ++ [y], rfl, lst_of_own (n := n + 1) (e := 9) (base := w1.heap.size) (by rw [barVals_append]; exact HO10.out), by rw [List.length_append, HN.out]; simp; omega, ?_, HB10.out⟩
        have hf := HF.out
        have h1 : (raws (L ++ [y])).flatten.length = (raws L).flatten.length + y.size := by simp [raws]
        omega
      · have b8 : ((x8 : Int) == 0) = false := beq_eq_false_iff_ne.2 (by omega)
        clear q8
        go_wp2
        go_ret
        exact ⟨_, L, rfl, lst_of_own HO8.out, by rw [HN.out]; omega, by have := HF.out; omega, HB8.out⟩
  · have hi1 : ¬ (1 : Int) < (n : Int) := by omega
    go_wp2_with fail
    refine (pick_any 8 _ r _ HR2.out (by omega) (by omega)).mono ?_
    rintro e w8 ⟨x8, rfl, _, _, hr8, hg8⟩
    have HR8 := Lib.hid hr8
    have HO8 := Lib.hid (own_pickS HO2.out hg8 (by omega))
    have HB8 := Lib.hid (HB2.out.trans (gb_belowS hg8 (Nat.le_refl _) (by omega)))
    have hsz8 : w1.heap.size ≤ w8.heap.size := Nat.le_trans hsz2 hg8.size
    clear hr8 hg8
    by_cases q8 : x8 = 0
    · subst q8
      go_wp2_with fail
      refine (of_lit (Short 3) 4 _ w8 r _ HR8.out (by omega) (by omega) (by omega) rfl (by intro v hv; simp at hv; rcases hv with rfl | rfl | rfl | rfl <;> exact ⟨_, rfl, by unfold Short; decide⟩)).mono ?_
      rintro e w9 ⟨y, rfl, hy, _, hg9⟩
      have hy3 : y.size ≤ 3 := hy
      have HO9 := Lib.hid (own_pickS HO8.out hg9 (by omega))
      have HB9 := Lib.hid (HB8.out.trans (gb_belowS hg9 (Nat.le_refl _) (by omega)))
      have hsz9 : w1.heap.size ≤ w9.heap.size := Nat.le_trans hsz8 hg9.size
      clear hy hg9
      go_wp2_with (at_builtin; refine wpList_append_own _ rfl _ _ 22 rfl w1.heap.size 9 i0 (.string ByteArray.empty) 1 16 Try.underlying22 hi hz0 hz1 hz2 rfl (by decide) _ _ _ rfl (own_al HO9.out _) _ 1 1 [.string y] rfl rfl (fun j u hu => zcell_1 w9 y 9 j u hu) (by simp [Value.oneCell']) (by unfold maxLen; omega) (by omega) (by simp; omega) ?_; intro v10 w10 hown' hgrow _; have HO10 := Lib.hid hown'; have HG10 := Lib.hid hgrow; clear hown' hgrow)
      have HB10 := Lib.hid (show Below r w w10 from (HB9.out.alloc (by omega) (.cells #[.string y] 9)).grown HG10.out (by simp; omega) (fun g hg => by have := (HO9.out.lt g hg).1; omega))
      go_wp2
      go_ret
      refine ⟨_, L ++ [y], rfl, lst_of_own (n := n + 1) (e := 9) (base := w1.heap.size) (by rw [barVals_append]; exact HO10.out), by rw [List.length_append, HN.out]; simp; omega, ?_, HB10.out⟩
      have hf := HF.out
      have h1 : (raws (L ++ [y])).flatten.length = (raws L).flatten.length + y.size := by simp [raws]
      omega
    · have b8 : ((x8 : Int) == 0) = false := beq_eq_false_iff_ne.2 (by omega)
      clear q8
      go_wp2
      go_ret
      exact ⟨_, L, rfl, lst_of_own HO8.out, by rw [HN.out]; omega, by have := HF.out; omega, HB8.out⟩
end
end Go.Proofs.Ythefpbnnmfjggaa
