/- The law of a drawn pack of which one part and the other stay. -/
import Derived.Test.YtkjginibdablnaaLpackC
namespace Go.Proofs.Ytkjginibdablnaa
open Go.RowKit
/-- the names of a pack that are not among others -/
def othersL (l : List Int) (ns : List Int) : List Int := l.filter fun x => !ns.contains x
theorem othersL_take {l : List Int} {k : Nat} {x : Int} {ns : List Int} (h : l[k]? = some x) : othersL (l.take (k + 1)) ns = if ns.contains x then othersL (l.take k) ns else othersL (l.take k) ns ++ [x] := by
  rw [List.take_add_one, h]
  unfold othersL
  rw [List.filter_append]
  show _ ++ List.filter (fun x => !ns.contains x) [x] = _
  rw [List.filter_cons]
  cases hc : ns.contains x with
  | false => rfl
  | true => exact List.append_nil _
theorem othersL_le (l ns : List Int) : (othersL l ns).length ≤ l.length := List.length_filter_le _ _
theorem two_parts (l : List Itm) (ns : List Int) : (lessL l ns).length + (lessL l (othersL (names l) ns)).length = l.length := by
  have key : ∀ m : List Itm, (∀ s ∈ m, s ∈ l) → (lessL m ns).length + (lessL m (othersL (names l) ns)).length = m.length := by
    intro m
    induction m with
    | nil => intro _; rfl
    | cons s m ih =>
      intro hm
      have h1 := ih fun t ht => hm t (by simp [ht])
      have hs : (othersL (names l) ns).contains s.1 = !ns.contains s.1 := by
        cases hc : ns.contains s.1 with
        | true =>
          cases hd : (othersL (names l) ns).contains s.1 with
          | false => rfl
          | true =>
            have h2 := List.contains_iff_mem.1 hd
            unfold othersL at h2
            have h3 := (List.mem_filter.1 h2).2
            rw [hc] at h3
            cases h3
        | false =>
          have h2 : s.1 ∈ othersL (names l) ns := by
            unfold othersL
            exact List.mem_filter.2 ⟨List.mem_map.2 ⟨s, hm s (by simp), rfl⟩, by rw [hc]; rfl⟩
          rw [List.contains_iff_mem.2 h2]
          rfl
      unfold lessL at *
      rw [List.filter_cons, List.filter_cons, hs]
      cases hc : ns.contains s.1 <;> simp at h1 ⊢ <;> omega
  exact key l fun _ h => h
theorem less_ge (l : List Itm) (k : Nat) (hk : k ≤ l.length) : k ≤ (lessL l ((names l).take k)).length := by
  have h : (l.take k).length ≤ (lessL l ((names l).take k)).length := by
    have e : lessL l ((names l).take k) = lessL (l.take k) ((names l).take k) ++ lessL (l.drop k) ((names l).take k) := by
      unfold lessL
      rw [← List.filter_append, List.take_append_drop]
    have e2 : lessL (l.take k) ((names l).take k) = l.take k := by
      rw [show (names l).take k = names (l.take k) by simp [names, List.map_take]]
      exact lessL_all _
    rw [e, e2, List.length_append]
    omega
  rw [List.length_take] at h
  omega
theorem wpList_append_i (B : Nat) (W : World) {ops : Array Oper} {rest : List Oper} {o : Oper} {a : Act} {Q : Exit → Act → World → Prop} (hgd : o.guard = none) (s x : Operand)
    (t T : TypeId) (ho : o.op = .call { callee := .builtin .append, args := #[s, x], argTypes := #[t, t] })
    (i0 : TypeInfo) (z : Value) (bytes : Nat) (ht : Try.prog.underlying t = some (.slice T)) (hi : Try.prog.info? T = some i0) (hz0 : i0.zero = some z) (hz1 : i0.size = 1) (hz2 : i0.bytes = bytes) (hzs : z.cells.size = 1) (hby : bytes ≤ 1000)
    (v : Value) (n : Nat) (l1 : List Value) (hs : a.eval s = v) (hown : W.ownsRow B T 1 v n l1) (hB : B ≤ W.heap.size) (ad : Addr) (m c : Nat) (l2 : List Value) (hx : a.eval x = .slice (some ad) m c) (hm : l2.length = m)
    (hnews : ∀ j u, l2[j]? = some u → W.cell? (ad.add j) = some u) (h1 : ∀ u ∈ l2, u.oneCell' = true) (hl : n + m ≤ 2200000) (h : ∀ v' w', w'.ownsRow B T 1 v' (n + m) (l1 ++ l2) → W.grownBy w' v.ownBlock → (v'.ownBlock = v.ownBlock ∨ v'.ownBlock = some W.heap.size) → wpList Try.prog ops Q rest (a.put o.dst v') w') :
    wpList Try.prog ops Q (o :: rest) a W := by
  refine wpList_plain hgd fun K hK => ?_
  have hmul : (n + m) * bytes ≤ 2200000 * 1000 := Nat.mul_le_mul hl hby
  obtain ⟨v', w', hr, h2, h3, h4, h5⟩ := run_append_own_at (P := Try.prog) W B t o.type T i0 z 1 bytes ht hi hz0 hz1 hz2 hzs (by decide)
    v n l1 hown ad m c l2 (by omega) hnews h1 (by unfold maxLen; omega) (by omega) hB
  unfold Oper.wp execOp
  simp only [ho, resolve, invoke, builtin, Sem.run_bind, Sem.run_pure, Result.andThen_ok, List.map_toArray, List.map_cons, List.map_nil, hs, hx, hr]
  exact hK _ _ (h v' w' h2 h3 h5)
theorem cell_far1 {w : World} {a : Addr} {b i j : Nat} {u t v : Value} (h : w.cell? a = some v) (hne : ¬ a.block = b) : ((w.setCell ⟨b, i, none⟩ u).setCell ⟨b, j, none⟩ t).cell? a = some v := by
  refine (World.cell?_setCell_other _ ⟨b, j, none⟩ a t (fun e => hne (by rw [← e]))).trans ((World.cell?_setCell_other _ ⟨b, i, none⟩ a u (fun e => hne (by rw [← e]))).trans h)
section
set_option maxHeartbeats 3200000
theorem lst_take {w : World} {B n c k : Nat} {A : Option Addr} {z : List Int} (h : Lst w B (.slice A n c) (intVals z)) (hk : k ≤ z.length) : Lst w B (.slice A k c) (intVals (z.take k)) := by
  obtain ⟨A', c', hv, hc, hx⟩ := h
  cases hv
  rw [intVals_length] at hc hx
  refine ⟨A, c, by rw [intVals_length, List.length_take, Nat.min_eq_left hk], by rw [intVals_length, List.length_take]; omega, fun h0 => ?_⟩
  rw [intVals_length, List.length_take] at h0
  obtain ⟨g, off, hA, hg, hcell⟩ := hx (by omega)
  refine ⟨g, off, hA, hg, fun j u hj => ?_⟩
  refine hcell j u ?_
  have hj2 := (List.getElem?_eq_some_iff.1 hj).1
  rw [intVals_length, List.length_take] at hj2
  rw [intVals, List.map_take, List.getElem?_take_of_lt (by omega)] at hj
  exact hj
theorem lawFnPackTwo (a : Option Addr) (len cap : Nat) (zs : List Int) (a1 : Option Addr) (len1 cap1 : Nat) (zs1 : List Int) (w : World) (h : Code w a len cap zs) (_ : Code w a1 len1 cap1 zs1) :
    Calls Try.prog 6 #[.slice a len cap, .slice a1 len1 cap1] w fun e w' => e = .returned (.bool true) ∧ Below w.heap.size w w' := by
  obtain ⟨i0, hi, hz0, hz1, hz2⟩ := info_parts info_int
  by_cases hlen : len ≤ 1048576
  · by_cases hlen1 : len1 ≤ 1048576
    · go_enter Try.func6, Try.ntmps6
      go_wp2_with fail
      refine (drawPackLess_any a len cap zs w h).mono ?_
      rintro e w1 ⟨no, v, vn, l, ns, rfl, hl, hns, h1, h6, hns6, hsz, hb⟩
      obtain ⟨A, c, hv⟩ := lp_form hl
      obtain ⟨An, cn, hvn⟩ := lst_form hns
      subst hv
      subst hvn
      rw [ivals_length, intVals_length] at *
      obtain ⟨n, hn⟩ : ∃ n, l.length = n := ⟨_, rfl⟩
      obtain ⟨nn, hnn⟩ : ∃ n, ns.length = n := ⟨_, rfl⟩
      have HN := Lib.hid hn
      have HNN := Lib.hid hnn
      rw [hn] at hl h1 h6 ⊢
      rw [hnn] at hns hns6 ⊢
      obtain ⟨W2, hW2⟩ : ∃ X, X = w1.alloc (.cells #[.int .i64 no, .slice A n c] 30) := ⟨_, rfl⟩
      have hb2 : Below w1.heap.size w1 W2 := by rw [hW2]; exact (Below.refl _ _).alloc (Nat.le_refl _) _
      have HT2 := Lib.hid (show Two W2 w1.heap.size 30 (.int .i64 no) (.slice A n c) by rw [hW2]; exact two_new _ _ _ _)
      have HL2 := Lib.hid (lp_next hl hb2)
      have HNS2 := Lib.hid (lst_next hns hb2)
      have HB2 := Lib.hid (bel2 hb hb2)
      have HW2 := Lib.hid hW2
      obtain ⟨b, hbb⟩ : ∃ b, w1.heap.size = b := ⟨_, rfl⟩
      clear hl hns hsz hb hb2 hW2 hn hnn h
      go_wp2_with fail
      rw [← HW2.out]
      refine (packLess_any W2 no _ _ l ns HL2.out HNS2.out (by rw [HN.out]; omega) (by rw [HNN.out]; omega)).mono ?_
      rintro e w3 ⟨v3, rfl, ho3, hb3⟩
      obtain ⟨A3, c3, hv3⟩ := own_formP ho3
      subst hv3
      rw [ivals_length] at *
      obtain ⟨L, hL⟩ : ∃ L, lessL l ns = L := ⟨_, rfl⟩
      have HLL := Lib.hid hL
      rw [hL] at ho3 ⊢
      obtain ⟨m, hm⟩ : ∃ m, L.length = m := ⟨_, rfl⟩
      have HM := Lib.hid hm
      have hmn : m ≤ 6 := by rw [← hm, ← hL]; have := lessL_le l ns; have := HN.out; omega
      rw [hm] at ho3 ⊢
      obtain ⟨W4, hW4⟩ : ∃ X, X = w3.alloc (.cells #[.int .i64 no, .slice A3 m c3] 30) := ⟨_, rfl⟩
      have hb4 : Below w3.heap.size w3 W4 := by rw [hW4]; exact (Below.refl _ _).alloc (Nat.le_refl _) _
      have HB24 := Lib.hid (bel2 hb3 hb4)
      have HX4 := Lib.hid (show Two W4 w3.heap.size 30 (.int .i64 no) (.slice A3 m c3) by rw [hW4]; exact two_new _ _ _ _)
      have HT4 := Lib.hid (HT2.out.keep (grown_of_bel HB24.out none) (by simp))
      have HL4 := Lib.hid (lp_next HL2.out HB24.out)
      have HNS4 := Lib.hid (lst_next HNS2.out HB24.out)
      have HO4 := Lib.hid (lp_next (lp_of_own ho3) hb4)
      have HB4 := Lib.hid (bel2 HB2.out HB24.out)
      have HW4 := Lib.hid hW4
      clear ho3 hb3 hb4 hW4 hL hm HT2 HL2 HNS2 HB2 HB24 HW2
      rw [hbb] at HT4
      clear hbb
      have HSt := Lib.hid (fun (X : World) (hX : Below W4.heap.size W4 X) => show X.cell? ⟨b, 0, none⟩ = some (.int .i64 no) ∧ X.cell? ⟨b, 1, none⟩ = some (.slice A n c) ∧ X.cell? ⟨w3.heap.size, 0, none⟩ = some (.int .i64 no) ∧ X.cell? ⟨w3.heap.size, 1, none⟩ = some (.slice A3 m c3) from
        ⟨(HT4.out.keep (grown_of_bel hX none) (by simp)).c0, (HT4.out.keep (grown_of_bel hX none) (by simp)).c1, (HX4.out.keep (grown_of_bel hX none) (by simp)).c0, (HX4.out.keep (grown_of_bel hX none) (by simp)).c1⟩)
      have HPS := Lib.hid (fun (X : World) (hX : Below W4.heap.size W4 X) => packLessS_any X no _ _ l ns (lp_next HL4.out hX) (lst_next HNS4.out hX) (by rw [HN.out]; omega) (by rw [HNN.out]; omega))
      have HDR := Lib.hid (show Below W4.heap.size W4 W4.drew from ⟨rfl, rfl, rfl, Nat.le_refl _, fun _ _ => rfl⟩)
      obtain ⟨p0, p1, x0, x1⟩ := HSt.out W4 (Below.refl _ _)
      go_wp2_with fail
      rw [← HW4.out]
      obtain ⟨bx, hbx⟩ : ∃ b, w3.heap.size = b := ⟨_, rfl⟩
      rw [hbx] at HSt x0 x1 ⊢
      clear hbx HW4
      go_region_held3 (fun w' => w'.cell? ⟨b, 0, none⟩ = some (.int .i64 no) ∧ w'.cell? ⟨b, 1, none⟩ = some (.slice A n c) ∧ w'.cell? ⟨bx, 0, none⟩ = some (.int .i64 no) ∧ w'.cell? ⟨bx, 1, none⟩ = some (.slice A3 m c3)) ((refine ⟨?_, ?_, ?_, ?_⟩ <;> assumption))
        (first
          | (go_at_call 16; go_must (refine (HPS.out W4.drew HDR.out).mono ?_); rw [HLL.out]; rintro e w5 ⟨v5, rfl, ho5, hb5⟩; have HO5 := Lib.hid (lp_of_own ho5); have HB45 := Lib.hid (bel2 HDR.out hb5); obtain ⟨s0, s1, s2, s3⟩ := HSt.out w5 HB45.out; clear ho5 hb5)
          | (go_at_call 21; go_must (refine (ldPack_any w5 no no _ v5 L L (lp_next HO4.out HB45.out) HO5.out (by rw [HM.out]; omega)).mono ?_); rw [show decide (no = no ∧ L = L) = true by simp]; rintro e w6 ⟨rfl, hb6⟩; have HB46 := Lib.hid (bel2 HB45.out hb6); obtain ⟨t0, t1, t2, t3⟩ := HSt.out w6 HB46.out; clear hb6))
      obtain ⟨W7, hW7⟩ : ∃ X, X = w6.alloc (.cells #[] 3) := ⟨_, rfl⟩
      have hb7 : Below w6.heap.size w6 W7 := by rw [hW7]; exact (Below.refl _ _).alloc (Nat.le_refl _) _
      have HE7 : Hid (W7.ownsRow w6.heap.size 3 1 (.slice (some ⟨w6.heap.size, 0, none⟩) 0 0) 0 []) := Lib.hid (by rw [hW7]; exact World.ownsRow_lit w6 #[] 0 (Nat.le_refl _) (by unfold maxLen; omega) rfl)
      have HB67 := Lib.hid hb7
      have HB47 := Lib.hid (bel2 HB46.out hb7)
      obtain ⟨z0, z1, _, _⟩ := HSt.out W7 HB47.out
      rw [hW7] at z0 z1
      have HPN := Lib.hid (packNames_any W7 no _ l (lp_next HL4.out HB47.out) (by rw [HN.out]; omega))
      have HW7 := Lib.hid hW7
      clear p0 p1 x0 x1 s0 s1 s2 s3 t1 t2 t3 HO5 HB45 HPS HDR hW7 hb7
      go_wp2_with fail
      rw [← HW7.out]
      refine HPN.out.mono ?_
      rintro e w8 ⟨v8, rfl, ho8, hb8⟩
      obtain ⟨A8, c8, hv8⟩ := lst_form (lst_of_own ho8)
      subst hv8
      rw [intVals_length, names_length] at *
      have hn8 := HN.out
      rw [hn8] at ho8 ⊢
      clear hn8
      have HO8 := Lib.hid (lst_of_own ho8)
      have HE8 := Lib.hid (show w8.ownsRow w6.heap.size 3 1 (.slice (some ⟨w6.heap.size, 0, none⟩) 0 0) 0 [] from HE7.out.kept (grown_of_bel hb8 none) (Classical.em _))
      have HB48 := Lib.hid (bel2 HB47.out hb8)
      have HB68 := Lib.hid (bel2 HB67.out hb8)
      have HOW8 := Lib.hid ho8
      have HW7s := Lib.hid (show W7.heap.size = w6.heap.size + 1 by rw [HW7.out]; simp)
      have HV8 := Lib.hid (show ∀ g, (Value.slice A8 n c8).ownBlock = some g → W7.heap.size ≤ g ∧ g < w8.heap.size from fun g hg => ho8.lt g hg)
      have hsb : b < w6.heap.size := by have := World.block_lt_of_cell? _ _ t0; exact this
      clear z0 z1 HE7 HW7 ho8 hb8 HB67 t0
      go_wp2_with fail
      go_loopw [8, 10] (fun o i wr => ∃ (j : Nat) (os : List Int), j ≤ n ∧ i = .int .i64 (j : Int) ∧ os = othersL ((names l).take j) ns ∧ wr.ownsRow w6.heap.size 3 1 o os.length (intVals os) ∧ ((Value.slice A8 n c8).ownBlock = none ∨ (Value.slice A8 n c8).ownBlock ≠ o.ownBlock) ∧ Below w6.heap.size w6 wr ∧ wr.ownsRow W7.heap.size 3 1 (.slice A8 n c8) n (intVals (names l)) ∧ w8.heap.size ≤ wr.heap.size) (fun _ i _ => n - (intOf i).toNat)
      case atStart =>
        refine ⟨0, [], Nat.zero_le _, rfl, rfl, HE8.out, .inr ?_, HB68.out, HOW8.out, Nat.le_refl _⟩
        intro e
        have h1 := HV8.out w6.heap.size e
        have h2 := HW7s.out
        omega
      case round =>
        obtain ⟨j, os, hj, rfl, hos, ho, hne, hb, hrow, hs⟩ := hrel
        have HOS := Lib.hid hos
        have HO := Lib.hid ho
        have HNE := Lib.hid hne
        have HB := Lib.hid hb
        have HROW := Lib.hid hrow
        have hol : os.length ≤ 6 := by rw [hos]; have := othersL_le ((names l).take j) ns; have := List.length_take_le j (names l); omega
        clear hos ho hne hb hrow
        by_cases hlt : j < n
        · obtain ⟨x, hx⟩ : ∃ x, (names l)[j]? = some x := ⟨_, List.getElem?_eq_getElem (by rw [names_length, HN.out]; exact hlt)⟩
          have HT := Lib.hid (othersL_take (ns := ns) hx)
          obtain ⟨g, off, hA, _, c1⟩ := lst_at (lst_of_own HROW.out) (intVals_get _ _ _ hx)
          subst hA
          have HLI := Lib.hid (ldIn_any wr wr.heap.size _ ns x (lst_next HNS4.out (HB46.out.trans (HB.out.mono HB46.out.size))) (by rw [HNN.out]; omega))
          have hi1 : (j : Int) < (n : Int) := by omega
          have hi0 : (0 : Int) ≤ (j : Int) := by omega
          clear hx
          cases hin : ns.contains x with
          | true =>
            have HT2 := Lib.hid (show os = othersL ((names l).take (j + 1)) ns by rw [HT.out, hin, HOS.out]; rfl)
            rw [hin] at HLI
            clear hin
            go_wp2_with fail
            refine HLI.out.mono ?_
            rintro e w' ⟨rfl, hw⟩
            rw [hw]
            clear hw
            go_wp2
            go_roundw
            case rel => exact ⟨j + 1, os, by omega, by go_num, HT2.out, HO.out, HNE.out, HB.out, HROW.out, hs⟩
            case measure => simp [intOf]; omega
          | false =>
            have HT2 := Lib.hid (show os ++ [x] = othersL ((names l).take (j + 1)) ns by rw [HT.out, hin, HOS.out]; rfl)
            rw [hin] at HLI
            clear hin
            go_wp2_with fail
            refine HLI.out.mono ?_
            rintro e w' ⟨rfl, hw⟩
            rw [hw]
            clear hw
            go_wp2_with (at_builtin; go_must (refine wpList_append_i w6.heap.size _ rfl _ _ 26 3 rfl i0 (.int .i64 0) 8 Try.underlying26 hi hz0 hz1 hz2 rfl (by decide) _ _ _ rfl (own_alloc HO.out _) (by have := HB.out.size; simp; omega) _ 1 1 [.int .i64 x] rfl rfl (cell_one_new _ _ _) (by simp [Value.oneCell']) (by omega) ?_); intro v1 w9 hown' hgrow hloc; have HO9 := Lib.hid hown'; have HG9 := Lib.hid hgrow; have HLOC := Lib.hid hloc; clear hown' hgrow hloc)
            have HA := Lib.hid (show Below wr.heap.size wr (wr.alloc (.cells #[.int .i64 x] 3)) from (Below.refl _ _).alloc (Nat.le_refl _) _)
            have HB9 := Lib.hid (show Below w6.heap.size w6 w9 from bel_gb (HB.out.trans (HA.out.mono HB.out.size)) HG9.out (by have := HB.out.size; simp; omega) (fun q hq => (HO.out.lt q hq).1))
            have HR9 := Lib.hid ((own_alloc HROW.out (.cells #[.int .i64 x] 3)).kept HG9.out HNE.out)
            have HS9 := Lib.hid (show w8.heap.size ≤ w9.heap.size from Nat.le_trans hs (Nat.le_trans HA.out.size HG9.out.size))
            have HNE9 := Lib.hid (show (Value.slice (some ⟨g, off, none⟩) n c8).ownBlock = none ∨ (Value.slice (some ⟨g, off, none⟩) n c8).ownBlock ≠ v1.ownBlock by
              rcases HLOC.out with h | h
              · rw [h]; exact HNE.out
              · right
                rw [h]
                intro e
                have h1 := (HV8.out _ e).2
                simp at h1
                omega)
            go_wp2
            go_roundw
            case rel => exact ⟨j + 1, os ++ [x], by omega, by go_num, HT2.out, by rw [intVals_append, List.length_append]; exact HO9.out, HNE9.out, HB9.out, HR9.out, HS9.out⟩
            case measure => simp [intOf]; omega
        · have hjn : n = j := by omega
          have HOF := Lib.hid (show os = othersL (names l) ns by rw [HOS.out, List.take_of_length_le (by rw [names_length, HN.out]; omega)])
          obtain ⟨ny, hny⟩ : ∃ y, (lessL l os).length = y := ⟨_, rfl⟩
          have hsum : m + ny = n := by
            rw [← hny, HOF.out, ← HM.out, ← HLL.out, ← HN.out]
            exact two_parts l ns
          obtain ⟨k, hk⟩ : ∃ k, len1 % (n + 1) = k := ⟨_, rfl⟩
          have hkn : k ≤ n := by rw [← hk]; have := Nat.mod_lt len1 (show 0 < n + 1 by omega); omega
          have hki : (len1 : Int) % ((n : Int) + 1) = (k : Int) := by
            have e := Int.natCast_emod len1 (n + 1)
            rw [hk] at e
            rw [e]
            rfl
          have hkz := less_ge l k (by rw [HN.out]; exact hkn)
          obtain ⟨nz, hnz⟩ : ∃ z, (lessL l ((names l).take k)).length = z := ⟨_, rfl⟩
          rw [hnz] at hkz
          have hnz6 : nz ≤ n := by rw [← hnz, ← HN.out]; exact lessL_le _ _
          have HNY := Lib.hid hny
          have HNZ := Lib.hid hnz
          clear hk hny hnz
          subst hjn
          have HB4r := Lib.hid (HB46.out.trans (HB.out.mono HB46.out.size))
          obtain ⟨q0, q1, _, _⟩ := HSt.out wr HB4r.out
          have HPL := Lib.hid (packLess_any wr no _ _ l os (lp_next HL4.out HB4r.out) (lst_of_own HO.out) (by rw [HN.out]; omega) (by omega))
          obtain ⟨Ao, co, hvo⟩ := lst_form (lst_of_own HO.out)
          subst hvo
          have HC8 := Lib.hid (lst_of_own HROW.out)
          have hcap : n ≤ c8 := by
            obtain ⟨A', c', hv, hc, _⟩ := HC8.out
            cases hv
            rw [intVals_length, names_length, HN.out] at hc
            exact hc
          go_wp2_with fail
          refine HPL.out.mono ?_
          rintro e w10 ⟨v10, rfl, ho10, hb10⟩
          obtain ⟨A10, c10, hv10⟩ := own_formP ho10
          rw [ivals_length, HNY.out] at hv10
          subst hv10
          obtain ⟨W11, hW11⟩ : ∃ X, X = w10.alloc (.cells #[.int .i64 no, .slice A10 ny c10] 30) := ⟨_, rfl⟩
          have hb11 : Below w10.heap.size w10 W11 := by rw [hW11]; exact (Below.refl _ _).alloc (Nat.le_refl _) _
          have HY11 := Lib.hid (show Two W11 w10.heap.size 30 (.int .i64 no) (.slice A10 ny c10) by rw [hW11]; exact two_new _ _ _ _)
          have HB11 := Lib.hid (bel2 HB4r.out (bel2 hb10 hb11))
          have HN11 := Lib.hid (lst_next HC8.out (bel2 hb10 hb11))
          have HW11 := Lib.hid hW11
          have hbs : b < W11.heap.size := by have := HB.out.size; have := hb10.size; have := hb11.size; omega
          have hbxs : bx < W11.heap.size := by have h := World.block_lt_of_cell? _ _ (HSt.out W11 HB11.out).2.2.1; exact h
          have nx1 : ¬ bx = W11.heap.size := by omega
          have nb1 : ¬ b = W11.heap.size := by omega
          have nb2 : ¬ W11.heap.size = b := by omega
          have HDR := Lib.hid (show Below W4.heap.size W4 W11.drew from (by have h := HB11.out; exact ⟨h.os, h.tape, h.output, h.size, h.block⟩))
          have HDR2 := Lib.hid (show Below W11.heap.size W11 W11.drew from ⟨rfl, rfl, rfl, Nat.le_refl _, fun _ _ => rfl⟩)
          have HPZ := Lib.hid (fun (X : World) (hX : Below W11.heap.size W11 X) => packLess_any X no _ _ l ((names l).take k) (lp_next HL4.out (bel2 HB11.out hX)) (lst_take (lst_next HN11.out hX) (by rw [names_length, HN.out]; exact hkn)) (by rw [HN.out]; omega) (by rw [List.length_take]; omega))
          obtain ⟨Z, hZ⟩ : ∃ Z, Z = W11.alloc (.cells #[.int .i64 0, .slice none 0 0] 30) := ⟨_, rfl⟩
          have HTZ := Lib.hid (show Two Z.drew W11.heap.size 30 (.int .i64 0) (.slice none 0 0) from (by have h := two_new W11 (.int .i64 0) (.slice none 0 0) 30; rw [← hZ] at h; exact h))
          have HBZ := Lib.hid (show Below W11.heap.size W11 Z.drew by
            have h := (Below.refl W11.heap.size W11).alloc (Nat.le_refl _) (.cells #[.int .i64 0, .slice none 0 0] 30)
            rw [← hZ] at h
            exact ⟨h.os, h.tape, h.output, h.size, h.block⟩)
          have HZ := Lib.hid hZ
          clear hZ
          obtain ⟨r0, r1, r2, r3⟩ := HSt.out W11 HB11.out
          have hr3 := HY11.out.c1
          have hys : w10.heap.size < W11.heap.size := HY11.out.lt
          obtain ⟨by_, hby_⟩ : ∃ b, b = w10.heap.size := ⟨_, rfl⟩
          have b1 : (0 : Int) ≤ (k : Int) := by omega
          have b2 : (k : Int) ≤ (c8 : Int) := by omega
          have b3 : (k : Int) ≤ (n : Int) := by omega
          clear ho10 hb10 hb11 hW11 q0 q1
          go_wp2_with fail
          rw [← HW11.out]
          have ny1 : ¬ by_ = W11.heap.size := by omega
          rw [← hby_] at HY11 hr3 ⊢
          clear hby_
          go_region_held3 (fun w' => w'.cell? ⟨b, 0, none⟩ = some (.int .i64 no) ∧ w'.cell? ⟨b, 1, none⟩ = some (.slice A n c)) (go_keep)
            (first
              | (go_at_call 18; with_reducible refine (HPZ.out W11.drew HDR2.out).mono ?_; rintro e w12 ⟨v12, rfl, ho12, hb12⟩; obtain ⟨A12, c12, hv12⟩ := own_formP ho12; rw [ivals_length, HNZ.out] at hv12; subst hv12; have HB1112 := Lib.hid (bel2 HDR2.out hb12); obtain ⟨y0, y1, y2, y3⟩ := HSt.out w12 (bel2 HB11.out HB1112.out); have y4 := (HY11.out.keep (grown_of_bel HB1112.out none) (by simp)).c1; clear ho12 hb12)
              | (go_at_call 18; rw [← HZ.out]; with_reducible refine (HPZ.out Z.drew HBZ.out).mono ?_; rintro e w12 ⟨v12, rfl, ho12, hb12⟩; obtain ⟨A12, c12, hv12⟩ := own_formP ho12; rw [ivals_length, HNZ.out] at hv12; subst hv12; have HB1112 := Lib.hid (bel2 HBZ.out hb12); obtain ⟨y0, y1, y2, y3⟩ := HSt.out w12 (bel2 HB11.out HB1112.out); have y4 := (HY11.out.keep (grown_of_bel HB1112.out none) (by simp)).c1; have HTZ2 := Lib.hid (HTZ.out.keep (grown_of_bel hb12 none) (by simp)); have y5 := HTZ2.out.c0; have y6 := HTZ2.out.c1; have y7 := HTZ2.out.f 0; have y8 := HTZ2.out.f 1; clear ho12 hb12))
          all_goals
            have hs1 : ((m : Int) + (ny : Int) == (n : Int)) = true := beq_iff_eq.2 (by omega)
            have hs2 : decide ((k : Int) ≤ (nz : Int)) = true := decide_eq_true (by omega)
            have hs3 : decide (k ≤ nz) = true := decide_eq_true hkz
            have hsa : IntKind.i64.wrap ((m : Int) + (ny : Int)) = (m : Int) + (ny : Int) := IntWalk.i64_in _ (by omega)
            have HBF := Lib.hid (bel2 HB4.out (bel2 HB11.out HB1112.out))
            have hbl := (bel2 HB4.out HB11.out).size
            first
              | (have e1 := cell_far1 (a := ⟨b, 1, none⟩) (i := 0) (j := 1) (u := .int .i64 no) (t := .slice A12 nz c12) y1 nb1
                 have e2 := cell_far1 (a := ⟨bx, 1, none⟩) (i := 0) (j := 1) (u := .int .i64 no) (t := .slice A12 nz c12) y3 nx1
                 have e3 := cell_far1 (a := ⟨by_, 1, none⟩) (i := 0) (j := 1) (u := .int .i64 no) (t := .slice A12 nz c12) y4 ny1
                 have e4 := (HTZ2.out.set0 (.int .i64 no)).set1 (.slice A12 nz c12)
                 have e5 := e4.c1
                 clear y1 y3 y4 e4
                 go_wp2
                 go_ret
                 exact ⟨rfl, (HBF.out.setCell (by show w.heap.size ≤ W11.heap.size; omega) _).setCell (by show w.heap.size ≤ W11.heap.size; omega) _⟩)
              | (have e1 := cell_alI y1 (.cells #[.int .i64 no, .slice A12 nz c12] 30)
                 have e2 := cell_alI y3 (.cells #[.int .i64 no, .slice A12 nz c12] 30)
                 have e3 := cell_alI y4 (.cells #[.int .i64 no, .slice A12 nz c12] 30)
                 have e4 := (two_new w12 (.int .i64 no) (.slice A12 nz c12) 30).c1
                 go_wp2
                 go_ret
                 exact ⟨rfl, HBF.out.alloc HBF.out.size _⟩)
    · go_enter Try.func6, Try.ntmps6
      go_wp2_with fail
      go_ret
      exact ⟨rfl, Below.refl _ _⟩
  · go_enter Try.func6, Try.ntmps6
    go_wp2_with fail
    go_ret
    exact ⟨rfl, Below.refl _ _⟩
end
end Go.Proofs.Ytkjginibdablnaa
