/- Both functions that take a text out of a tree answer alike. -/
import Derived.Test.YtndiofhinlogmaaTreeGet
namespace Go.Proofs.Ytndiofhinlogmaa
open Go.RowKit Go.Maps
/-- the first text of a path -/
def getE : List Fil → ByteArray → Option ByteArray
  | [], _ => none
  | s :: l, p => if s.1 = p then some s.2 else getE l p
theorem getF_take : ∀ {l : List Fil} {k : Nat} {s : Fil} {p : ByteArray}, l[k]? = some s → s.1 = p → (∀ x ∈ l.take k, x.1 ≠ p) → getE l p = some s.2
  | t :: l, 0, s, p, hs, he, _ => by
    injection hs with hs
    subst hs
    exact if_pos he
  | t :: l, k + 1, s, p, hs, he, hn => by
    show (if t.1 = p then some t.2 else getE l p) = some s.2
    rw [if_neg (hn t (by simp))]
    exact getF_take (k := k) (by simpa using hs) he fun x hx => hn x (by simp [hx])
theorem getF_none : ∀ {l : List Fil} {p : ByteArray}, (∀ x ∈ l, x.1 ≠ p) → getE l p = none
  | [], _, _ => rfl
  | s :: l, p, h => by
    show (if s.1 = p then some s.2 else getE l p) = none
    rw [if_neg (h s (by simp))]
    exact getF_none fun x hx => h x (by simp [hx])
theorem getL_none : ∀ {l : List Fil} {p : ByteArray}, (∀ x ∈ l, x.1 ≠ p) → getL l p = none
  | [], _, _ => rfl
  | s :: l, p, h => by
    show (match getL l p with | some t => some t | none => if s.1 = p then some s.2 else none) = none
    rw [getL_none fun x hx => h x (by simp [hx])]
    exact if_neg (h s (by simp))
theorem getL_eq : ∀ {l : List Fil} {p : ByteArray}, l.Pairwise (fun a b => a.1 ≠ b.1) → getL l p = getE l p
  | [], _, _ => rfl
  | s :: l, p, h => by
    obtain ⟨h1, h2⟩ := List.pairwise_cons.1 h
    show (match getL l p with | some t => some t | none => if s.1 = p then some s.2 else none) = if s.1 = p then some s.2 else getE l p
    by_cases e : s.1 = p
    · rw [getL_none fun x hx => by rw [← e]; exact (h1 x hx).symm]
      simp only [if_pos e]
    · rw [getL_eq h2]
      simp only [if_neg e]
      cases getE l p <;> rfl
theorem tree_paths {l : List Fil} (h : treeB l = true) : l.Pairwise (fun a b => a.1 ≠ b.1) := by
  simp only [treeB, Bool.and_eq_true] at h
  rw [List.pairwise_iff_getElem]
  intro i j hi hj hij e
  have h1 := ok_less h.1 (j - i - 1) i l[i] l[j] (by omega) (List.getElem?_eq_getElem hi) (by rw [show i + (j - i - 1) + 1 = j by omega]; exact List.getElem?_eq_getElem hj)
  rw [show pth l[j] = pth l[i] by unfold pth; rw [e], bl_irr] at h1
  cases h1
def treeGet (l : List Fil) (p : ByteArray) : Option ByteArray := if treeB l then getE l p else none
theorem treeGet_no {l : List Fil} (h : treeB l = false) (p : ByteArray) : treeGet l p = none := by simp [treeGet, h]
theorem treeGet_yes {l : List Fil} (h : treeB l = true) (p : ByteArray) : treeGet l p = getE l p := by simp [treeGet, h]
theorem treeGet_L {l : List Fil} (h : treeB l = true) (p : ByteArray) : treeGet l p = getL l p := by rw [treeGet_yes h, getL_eq (tree_paths h)]
abbrev got (o : Option ByteArray) : Value := .tuple #[.string (o.getD ByteArray.empty), .bool o.isSome]
theorem ret_got {o : Option ByteArray} {s : ByteArray} {b : Bool} (h1 : s = o.getD ByteArray.empty) (h2 : b = o.isSome) : Ending.returned (.tuple #[.string s, .bool b]) = .returned (got o) := by rw [h1, h2]
section
set_option maxHeartbeats 1600000
theorem get_any (w : World) (b0 n B : Nat) (l : List Fil) (p : ByteArray) (hF : Folds w b0 n l B) (hp : p.size ≤ 1048600) (mx : Mx w) :
    Calls Try.prog 39 #[.map (some b0), .string p] w fun e w' => e = .returned (got (getL l p)) ∧ ∃ n, w' = w.drewN n := by
  have HFO := Lib.hid (folderOf_any p w hp mx)
  have HF := Lib.hid hF
  have hPS : keyOf Try.prog 9 (.string p) = some (.string p.data.toList) := WideMaps.keyOf_string_mk Try.underlying9 (by unfold maxLen; omega)
  have HPS := Lib.hid hPS
  obtain ⟨g, hg⟩ : ∃ g, getL l p = g := ⟨_, rfl⟩
  have HG := Lib.hid hg
  rw [hg]
  clear hF mx hPS hg
  go_enter Try.func39, Try.ntmps39
  go_wp2_with fail
  refine HFO.out.mono ?_
  rintro e W ⟨r, rfl, hr, m, hW⟩
  have HW := Lib.hid hW
  have hFW := folds_kept HF.out (show w.grownBy W none by rw [hW]; exact gb_drewN w m none)
  have HRS := Lib.hid (show keyOf Try.prog 9 (.string r) = some (.string (folderI p.data.toList)) by
    rw [← hr]
    refine WideMaps.keyOf_string_mk Try.underlying9 ?_
    have h1 : r.data.toList.length = r.size := by simp
    have h2 := folderI_le p.data.toList
    rw [← hr] at h2
    have h3 : p.data.toList.length = p.size := by simp
    unfold maxLen
    omega)
  clear hr hW HF
  obtain ⟨D, hown, hBb, hout⟩ := hFW
  obtain ⟨v, ps, hrun, hv⟩ := hown.lookup keyedS Try.underlying59 (zeroM W) (zd := .nil) (zp := []) rfl HRS.out
  rcases hout.1 (folderI p.data.toList) with ⟨hnil, hno⟩ | ⟨b, E, a1, a2, a3, a4, a5⟩
  · rw [hnil] at hv
    obtain rfl : v = .map none := by
      rcases readM_inv hv with ⟨h, _⟩ | ⟨_, _, h⟩
      · exact h
      · cases h
    have hlook := Maps.look_nil (P := Try.prog) (w := W) true keyedS Try.underlying67 (zeroS W) HPS.out
    have HNO := Lib.hid (show g = none by rw [← HG.out]; exact hno p rfl)
    clear hnil hv hout hown hno
    go_wp2
    go_ret2
    exact ⟨ret_got (by rw [HNO.out]; rfl) (by rw [HNO.out]; rfl), m, HW.out⟩
  · rw [a1] at hv
    obtain rfl : v = .map (some b) := by
      rcases readM_inv hv with ⟨_, h⟩ | ⟨b', h, h2⟩
      · cases h
      · injection h2 with h2
        injection h2 with _ h2
        rw [h, show b' = b by omega]
    obtain ⟨v2, ps2, hrun2, hv2⟩ := a4.look_ok keyedS Try.underlying67 (zeroS W) (zd := .lit (.string [])) (zp := []) (plainElem_string Try.underlying9 (by unfold maxLen; decide)) HPS.out
    obtain ⟨s, rfl, hs⟩ := readS_inv hv2
    obtain ⟨q1, q2⟩ := a5 p rfl
    have HQ := Lib.hid (show s = g.getD ByteArray.empty by
      rw [q2, HG.out] at hs
      injection hs with hs
      injection hs with hs
      exact (data_inj hs).symm)
    obtain ⟨ok, hok⟩ : ∃ ok, Maps.has E (.string p.data.toList) = ok := ⟨_, rfl⟩
    rw [hok] at hrun2 q1
    have HOK := Lib.hid (show ok = g.isSome by rw [q1, HG.out])
    clear a1 a4 a5 hv hv2 hout hown q1 q2 hok hs
    go_wp2
    go_ret2
    exact ⟨ret_got HQ.out HOK.out, m, HW.out⟩
theorem foldersOf_any (w : World) (v : Value) (l : List Fil) (hl : Lp w w.heap.size v (fvals l)) (hn : l.length ≤ 1048600) (hs : ∀ s ∈ l, s.1.size ≤ 1048600 ∧ s.2.size ≤ 1048600) (mx : Mx w) :
    Calls Try.prog 38 #[v] w fun e w' => e = .returned (.map (some w.heap.size)) ∧ Folds w' w.heap.size (2 * l.length) l w.heap.size ∧ Below w.heap.size w w' := by
  obtain ⟨A, c, rfl, hc, hx⟩ := hl
  rw [fvals_length] at *
  have HX := Lib.hid hx
  have HSZ := Lib.hid hs
  have MX := Lib.hid mx
  clear hs mx hx
  obtain ⟨n, hnn⟩ : ∃ n, l.length = n := ⟨_, rfl⟩
  have HN := Lib.hid hnn
  rw [hnn] at hn hc ⊢
  clear hnn
  have hmm := @run_makeMap Try.prog
  go_enter Try.func38, Try.ntmps38
  go_wp2_with fail
  go_loopw [9] (fun i wr => ∃ k : Nat, k ≤ n ∧ i = .int .i64 (k : Int) ∧ Folds wr w.heap.size (2 * k) (l.take k) w.heap.size ∧ Below w.heap.size w wr) (fun i _ => n - (intOf i).toNat)
  case atStart => exact ⟨0, Nat.zero_le _, rfl, folds_made w _ (Nat.le_refl _), (Below.refl _ _).alloc (Nat.le_refl _) _⟩
  case round =>
    obtain ⟨k, hk, rfl, hf, hb⟩ := hrel
    have HF := Lib.hid hf
    have HB := Lib.hid hb
    clear hf hb
    by_cases hlt : k < n
    · obtain ⟨⟨a, b⟩, hs⟩ : ∃ s, l[k]? = some s := ⟨_, List.getElem?_eq_getElem (by have := HN.out; omega)⟩
      obtain ⟨g, off, rfl, hg, hcg⟩ := HX.out (by have := HN.out; omega)
      obtain ⟨h1, h2⟩ := hcg k _ (fvals_get hs)
      have hc1 := (HB.out.cell (p := ⟨g, off + k * 2, none⟩) hg).trans h1
      have hc2 := (HB.out.cell (p := ⟨g, off + k * 2 + 1, none⟩) hg).trans h2
      have HS := Lib.hid hs
      have HSS := Lib.hid (HSZ.out _ (List.mem_of_getElem? hs))
      clear h1 h2 hs hcg
      have hi1 : (k : Int) < (n : Int) := by omega
      have HBA := Lib.hid (HB.out.alloc HB.out.size (.cells #[.string a, .string b] 38))
      have HPUT := Lib.hid (put_any (wr.alloc (.cells #[.string a, .string b] 38)) w.heap.size (2 * k) w.heap.size (l.take k) a b (folds_kept HF.out (gb_alloc _ _ none)) (by omega) HSS.out.1 HSS.out.2 (MX.out.next HBA.out) (by simp; have := HB.out.size; omega))
      go_wp2_with fail
      refine HPUT.out.mono ?_
      rintro e w' ⟨rfl, hf, hb⟩
      have HF2 := Lib.hid (show Folds w' w.heap.size (2 * (k + 1)) (l.take (k + 1)) w.heap.size by rw [List.take_add_one, HS.out]; exact hf)
      have HB2 := Lib.hid (HBA.out.trans hb)
      clear hf hb
      go_wp2
      go_roundw
      case rel => exact ⟨k + 1, by omega, by go_num, HF2.out, HB2.out⟩
      case measure => simp [intOf]; omega
    · have HE := Lib.hid (show Folds wr w.heap.size (2 * n) l w.heap.size by
        have h := HF.out
        rw [show k = n by omega, List.take_of_length_le (by have := HN.out; omega)] at h
        exact h)
      go_wp2
      go_ret
      exact ⟨rfl, HE.out, HB.out⟩
theorem l11Get_any (w : World) (v : Value) (l : List Fil) (p : ByteArray) (hl : Lp w w.heap.size v (fvals l)) (hn : l.length ≤ 1048600) :
    Calls Try.prog 37 #[v, .string p] w fun e w' => e = .returned (got (getE l p)) ∧ w' = w := by
  obtain ⟨A, c, rfl, hc, hx⟩ := hl
  rw [fvals_length] at *
  have HX := Lib.hid hx
  clear hx
  obtain ⟨n, hnn⟩ : ∃ n, l.length = n := ⟨_, rfl⟩
  have HN := Lib.hid hnn
  rw [hnn] at hn hc ⊢
  clear hnn
  obtain ⟨r, hr⟩ : ∃ r, getE l p = r := ⟨_, rfl⟩
  have HR := Lib.hid hr
  rw [hr]
  clear hr
  go_enter Try.func37, Try.ntmps37
  go_wp2_with fail
  go_loopw [6] (fun i wr => ∃ k : Nat, k ≤ n ∧ i = .int .i64 (k : Int) ∧ (∀ x ∈ l.take k, x.1 ≠ p) ∧ wr = w) (fun i _ => n - (intOf i).toNat)
  case atStart => exact ⟨0, Nat.zero_le _, rfl, by simp, rfl⟩
  case round =>
    obtain ⟨k, hk, rfl, ha, rfl⟩ := hrel
    have HA := Lib.hid ha
    clear ha
    by_cases hlt : k < n
    · obtain ⟨⟨a, b⟩, hs⟩ : ∃ s, l[k]? = some s := ⟨_, List.getElem?_eq_getElem (by have := HN.out; omega)⟩
      obtain ⟨g, off, rfl, hg, hcg⟩ := HX.out (by have := HN.out; omega)
      obtain ⟨hc1, hc2⟩ := hcg k _ (fvals_get hs)
      have HS := Lib.hid hs
      clear hs hcg
      have hi1 : (k : Int) < (n : Int) := by omega
      have hi0 : (0 : Int) ≤ (k : Int) := by omega
      by_cases e : a = p
      · have HE := Lib.hid (show r = some b by rw [← HR.out]; exact getF_take HS.out e HA.out)
        subst e
        go_wp2
        go_ret2
        exact ⟨ret_got (by rw [HE.out]; rfl) (by rw [HE.out]; rfl), rfl⟩
      · have e2 : (a.toList == p.toList) = false := by simpa using fun h => e (toList_injF h)
        have HA2 := Lib.hid (show ∀ x ∈ l.take (k + 1), x.1 ≠ p by
          rw [List.take_add_one, HS.out]
          intro x hx
          rcases List.mem_append.1 hx with hx | hx
          · exact HA.out x hx
          · simp at hx; rw [hx]; exact e)
        clear e
        go_wp2
        go_roundw
        case rel => exact ⟨k + 1, by omega, by go_num, HA2.out, trivial⟩
        case measure => simp [intOf]; omega
    · have HE := Lib.hid (show r = none by
        rw [← HR.out]
        refine getF_none fun x hx => HA.out x ?_
        rw [List.take_of_length_le (by have := HN.out; omega)]
        exact hx)
      go_wp2
      go_ret2
      exact ⟨ret_got (by rw [HE.out]; rfl) (by rw [HE.out]; rfl), rfl⟩
theorem treeGetS_any (w : World) (v : Value) (l : List Fil) (p : ByteArray) (hl : Lp w w.heap.size v (fvals l)) (hn : l.length ≤ 1048600) (hs : ∀ s ∈ l, s.1.size ≤ 1048600 ∧ s.2.size ≤ 1048600) :
    Calls Try.prog 17 #[v, .string p] w fun e w' => e = .returned (got (treeGet l p)) ∧ ∃ n, w' = w.drewN n := by
  obtain ⟨A, c, hv⟩ := lp_form hl
  subst hv
  have HL := Lib.hid hl
  have HTO := Lib.hid (treeOkS_any w _ l hl hn hs)
  have HN := Lib.hid hn
  clear hl hs hn
  obtain ⟨r, hr⟩ : ∃ r, treeGet l p = r := ⟨_, rfl⟩
  have HR := Lib.hid hr
  rw [hr]
  clear hr
  cases ht : treeB l with
  | false =>
    have HE := Lib.hid (show r = none by rw [← HR.out]; exact treeGet_no ht p)
    rw [ht] at HTO
    clear ht
    go_enter Try.func17, Try.ntmps17
    go_wp2_with fail
    refine HTO.out.mono ?_
    rintro e w' ⟨rfl, n, rfl⟩
    go_wp2
    go_ret2
    exact ⟨ret_got (by rw [HE.out]; rfl) (by rw [HE.out]; rfl), n, rfl⟩
  | true =>
    have HE := Lib.hid (show getE l p = r by rw [← HR.out]; exact (treeGet_yes ht p).symm)
    rw [ht] at HTO
    clear ht
    go_enter Try.func17, Try.ntmps17
    go_wp2_with fail
    refine HTO.out.mono ?_
    rintro e w' ⟨rfl, n, rfl⟩
    go_wp2_with fail
    refine (l11Get_any (w.drewN n) _ l p (lp_drewN HL.out n) HN.out).mono ?_
    rw [HE.out]
    rintro e w' ⟨rfl, rfl⟩
    go_wp2
    go_ret2
    exact ⟨rfl, n, rfl⟩
theorem treeGet_any (w : World) (v : Value) (l : List Fil) (p : ByteArray) (hl : Lp w w.heap.size v (fvals l)) (hn : l.length ≤ 1048600) (hs : ∀ s ∈ l, s.1.size ≤ 1048600 ∧ s.2.size ≤ 1048600) (hp : p.size ≤ 1048600) (mx : Mx w) :
    Calls Try.prog 18 #[v, .string p] w fun e w' => e = .returned (got (treeGet l p)) ∧ Below w.heap.size w w' := by
  obtain ⟨A, c, hv⟩ := lp_form hl
  subst hv
  have HL := Lib.hid hl
  have HTO := Lib.hid (treeOk_any w _ l hl hn hs mx)
  have HN := Lib.hid hn
  have HSZ := Lib.hid hs
  have MX := Lib.hid mx
  have HP := Lib.hid hp
  clear hl hs hn mx hp
  obtain ⟨r, hr⟩ : ∃ r, treeGet l p = r := ⟨_, rfl⟩
  have HR := Lib.hid hr
  rw [hr]
  clear hr
  cases ht : treeB l with
  | false =>
    have HE := Lib.hid (show r = none by rw [← HR.out]; exact treeGet_no ht p)
    rw [ht] at HTO
    clear ht
    go_enter Try.func18, Try.ntmps18
    go_wp2_with fail
    refine HTO.out.mono ?_
    rintro e w' ⟨rfl, hb⟩
    have HB := Lib.hid hb
    clear hb
    go_wp2
    go_ret2
    exact ⟨ret_got (by rw [HE.out]; rfl) (by rw [HE.out]; rfl), HB.out⟩
  | true =>
    have HE := Lib.hid (show getL l p = r by rw [← HR.out]; exact (treeGet_L ht p).symm)
    rw [ht] at HTO
    clear ht
    go_enter Try.func18, Try.ntmps18
    go_wp2_with fail
    refine HTO.out.mono ?_
    rintro e w1 ⟨rfl, hb⟩
    have HB := Lib.hid hb
    clear hb
    go_wp2_with fail
    refine (foldersOf_any w1 _ l (lp_next HL.out HB.out) HN.out HSZ.out (MX.out.next HB.out)).mono ?_
    rintro e w2 ⟨rfl, hf, hb⟩
    have HF := Lib.hid hf
    have HB2 := Lib.hid (bel2 HB.out hb)
    clear hf hb
    go_wp2_with fail
    refine (get_any w2 _ _ _ l p HF.out HP.out (MX.out.next HB2.out)).mono ?_
    rw [HE.out]
    rintro e w' ⟨rfl, n, rfl⟩
    have HB3 := Lib.hid (show Below w.heap.size w (w2.drewN n) from ⟨HB2.out.os, HB2.out.tape, HB2.out.output, HB2.out.size, HB2.out.block⟩)
    go_wp2
    go_ret2
    exact ⟨rfl, HB3.out⟩
end
end Go.Proofs.Ytndiofhinlogmaa
