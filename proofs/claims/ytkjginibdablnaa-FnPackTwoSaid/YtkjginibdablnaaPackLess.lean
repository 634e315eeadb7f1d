/- A pack of what is wanted alone: both functions give the same pack. -/
import Derived.Test.YtkjginibdablnaaPackN
import Derived.Test.YtkjginibdablnaaShelf
import Derived.Deep.RegionHeld3
namespace Go.Proofs.Ytkjginibdablnaa
open Go.RowKit
def lessL (l : List Itm) (ns : List Int) : List Itm := l.filter fun s => ns.contains s.1
theorem lessL_take {l : List Itm} {k : Nat} {s : Itm} {ns : List Int} (h : l[k]? = some s) : lessL (l.take (k + 1)) ns = if ns.contains s.1 then lessL (l.take k) ns ++ [s] else lessL (l.take k) ns := by
  rw [List.take_add_one, h]
  simp only [lessL, List.filter_append, Option.toList_some]
  by_cases hc : ns.contains s.1 = true
  · rw [if_pos hc, List.filter_cons, if_pos hc]
    rfl
  · rw [if_neg hc, List.filter_cons, if_neg hc, List.filter_nil, List.append_nil]
theorem lessL_le (l : List Itm) (ns : List Int) : (lessL l ns).length ≤ l.length := List.length_filter_le _ _
theorem ivals_snoc (l : List Itm) (a : Int) (b : ByteArray) : ivals (l ++ [(a, b)]) = ivals l ++ [(.int .i64 a, .string b)] := by rw [ivals_append]; rfl
theorem intVals_inv {z : List Int} {j : Nat} {v : Value} (h : (intVals z)[j]? = some v) : v = .int .i64 (z.getD j 0) := by
  simp only [intVals, List.getElem?_map, Option.map_eq_some_iff] at h
  obtain ⟨x, hx, rfl⟩ := h
  simp [List.getD, hx]
/-- a block of two cells, as it lies -/
def Two (w : World) (b : Nat) (T : TypeId) (x y : Value) : Prop := w.heap[b]? = some (.cells #[x, y] T (0, 0))
theorem Two.c0 {w : World} {b : Nat} {T : TypeId} {x y : Value} (h : Two w b T x y) : w.cell? ⟨b, 0, none⟩ = some x := by
  unfold Two at h
  simp [World.cell?, h]
theorem Two.c1 {w : World} {b : Nat} {T : TypeId} {x y : Value} (h : Two w b T x y) : w.cell? ⟨b, 1, none⟩ = some y := by
  unfold Two at h
  simp [World.cell?, h]
theorem Two.f {w : World} {b : Nat} {T : TypeId} {x y : Value} (h : Two w b T x y) (i : Nat) : w.frozen? ⟨b, i, none⟩ = false := by
  unfold Two at h
  simp [World.frozen?, h]
theorem Two.lt {w : World} {b : Nat} {T : TypeId} {x y : Value} (h : Two w b T x y) : b < w.heap.size := by
  rcases Nat.lt_or_ge b w.heap.size with h' | h'
  · exact h'
  · unfold Two at h
    rw [Array.getElem?_eq_none h'] at h; cases h
theorem Two.keep {w w' : World} {b : Nat} {T : TypeId} {x y : Value} {row : Option Nat} (h : Two w b T x y) (hg : w.grownBy w' row) (hne : some b ≠ row) : Two w' b T x y := (hg.block b h.lt hne).trans h
theorem Two.set1 {w : World} {b : Nat} {T : TypeId} {x y : Value} (h : Two w b T x y) (z : Value) : Two (w.setCell ⟨b, 1, none⟩ z) b T x z := by
  unfold Two at h ⊢
  simp [World.setCell, Array.getElem?_modify, h]
theorem Two.set0 {w : World} {b : Nat} {T : TypeId} {x y : Value} (h : Two w b T x y) (z : Value) : Two (w.setCell ⟨b, 0, none⟩ z) b T z y := by
  unfold Two at h ⊢
  simp [World.setCell, Array.getElem?_modify, h]
theorem two_new (w : World) (x y : Value) (T : TypeId) : Two (w.alloc (.cells #[x, y] T)) w.heap.size T x y := heap_alloc_new w _
theorem wpList_append_r (B : Nat) (W : World) {ops : Array Oper} {rest : List Oper} {o : Oper} {a : Act} {Q : Exit → Act → World → Prop} (hgd : o.guard = none) (s x : Operand)
    (t T : TypeId) (ho : o.op = .call { callee := .builtin .append, args := #[s, x], argTypes := #[t, t] })
    (i0 : TypeInfo) (z : Value) (bytes : Nat) (ht : Try.prog.underlying t = some (.slice T)) (hi : Try.prog.info? T = some i0) (hz0 : i0.zero = some z) (hz1 : i0.size = 2) (hz2 : i0.bytes = bytes) (hzs : z.cells.size = 2) (hby : bytes ≤ 1000)
    (v : Value) (l1 : List (Value × Value)) (hs : a.eval s = v) (hown : OwnP T B W v l1) (hB : B ≤ W.heap.size) (ad : Addr) (m c : Nat) (l2 : List (Value × Value)) (hx : a.eval x = .slice (some ad) m c) (hm : l2.length = m)
    (hnews : ∀ j u, (flat l2)[j]? = some u → W.cell? (ad.add j) = some u) (h1 : Ones l2) (hl : l1.length + l2.length ≤ 2200000) (h : ∀ v' w', OwnP T B w' v' (l1 ++ l2) → W.grownBy w' v.ownBlock → (v'.ownBlock = v.ownBlock ∨ v'.ownBlock = some W.heap.size) → wpList Try.prog ops Q rest (a.put o.dst v') w') :
    wpList Try.prog ops Q (o :: rest) a W := by
  refine wpList_plain hgd fun K hK => ?_
  subst hm
  have hmul : (l1.length + l2.length) * bytes ≤ 2200000 * 1000 := Nat.mul_le_mul hl hby
  obtain ⟨v', w', hr, h2, h3, h4, h5⟩ := run_append_own_at (P := Try.prog) W B t o.type T i0 z 2 bytes ht hi hz0 hz1 hz2 hzs (by decide)
    v l1.length (flat l1) hown ad l2.length c (flat l2) (flat_length l2) hnews h1 (by unfold maxLen; omega) (by omega) hB
  unfold Oper.wp execOp
  simp only [ho, resolve, invoke, builtin, Sem.run_bind, Sem.run_pure, Result.andThen_ok, List.map_toArray, List.map_cons, List.map_nil, hs, hx, hr]
  exact hK _ _ (h v' w' (by unfold OwnP; rw [flat_append, List.length_append]; exact h2) h3 h5)
theorem step_append_r (B : Nat) (W : World) {ops : Array Oper} {o : Oper} {a : Act} {K : Act → World → Prop} {Q : Exit → Act → World → Prop} {E : Prop} (hgd : o.guard = none) (s x : Operand)
    (t T : TypeId) (ho : o.op = .call { callee := .builtin .append, args := #[s, x], argTypes := #[t, t] })
    (i0 : TypeInfo) (z : Value) (bytes : Nat) (ht : Try.prog.underlying t = some (.slice T)) (hi : Try.prog.info? T = some i0) (hz0 : i0.zero = some z) (hz1 : i0.size = 2) (hz2 : i0.bytes = bytes) (hzs : z.cells.size = 2) (hby : bytes ≤ 1000)
    (v : Value) (l1 : List (Value × Value)) (hs : a.eval s = v) (hown : OwnP T B W v l1) (hB : B ≤ W.heap.size) (ad : Addr) (m c : Nat) (l2 : List (Value × Value)) (hx : a.eval x = .slice (some ad) m c) (hm : l2.length = m)
    (hnews : ∀ j u, (flat l2)[j]? = some u → W.cell? (ad.add j) = some u) (h1 : Ones l2) (hl : l1.length + l2.length ≤ 2200000) (h : ∀ v' w', OwnP T B w' v' (l1 ++ l2) → W.grownBy w' v.ownBlock → (v'.ownBlock = v.ownBlock ∨ v'.ownBlock = some W.heap.size) → K (a.put o.dst v') w') :
    if Region.wanted o (yielded ops a.tmps) = true then Oper.wp Try.prog o a W K Q else E := by
  have hw : Region.wanted o (yielded ops a.tmps) = true := by simp [Region.wanted, hgd]
  rw [if_pos hw]
  subst hm
  have hmul : (l1.length + l2.length) * bytes ≤ 2200000 * 1000 := Nat.mul_le_mul hl hby
  obtain ⟨v', w', hr, h2, h3, h4, h5⟩ := run_append_own_at (P := Try.prog) W B t o.type T i0 z 2 bytes ht hi hz0 hz1 hz2 hzs (by decide)
    v l1.length (flat l1) hown ad l2.length c (flat l2) (flat_length l2) hnews h1 (by unfold maxLen; omega) (by omega) hB
  unfold Oper.wp execOp
  simp only [ho, resolve, invoke, builtin, Sem.run_bind, Sem.run_pure, Result.andThen_ok, List.map_toArray, List.map_cons, List.map_nil, hs, hx, hr]
  exact h v' w' (by unfold OwnP; rw [flat_append, List.length_append]; exact h2) h3 h5
theorem news_one2 (w : World) (o : Obj) (x y : Value) (T : TypeId) : ∀ j u, (flat [(x, y)])[j]? = some u → ((w.alloc o).alloc (.cells #[x, y] T)).cell? ((⟨w.heap.size + 1, 0, none⟩ : Addr).add j) = some u := by
  intro j u h
  have h2 := news_one (w.alloc o) _ x y T (Below.refl _ _) j u h
  rw [show (w.alloc o).heap.size = w.heap.size + 1 by simp] at h2
  exact h2
theorem ones_twoI (x y : Value) (hx : x.oneCell' = true) (hy : y.oneCell' = true) : Ones [(x, y)] := fun u hu => by
  simp [flat] at hu
  rcases hu with rfl | rfl
  · exact hx
  · exact hy
theorem ownP_two {T B b B' : Nat} {w : World} {v x y : Value} {l : List (Value × Value)} (h : OwnP T B w v l) (hb : b < B ∧ B' ≤ B := by omega) : OwnP T B' ((w.setCell ⟨b, 0, none⟩ x).setCell ⟨b, 1, none⟩ y) v l := ownP_less (ownP_set (ownP_set h hb.1 0 x) hb.1 1 y) hb.2
section
set_option maxHeartbeats 1600000
theorem contains_any (w : World) (B : Nat) (v : Value) (z : List Int) (x : Int) (h : Lst w B v (intVals z)) (hz : z.length ≤ 1000000000) :
    Calls Try.prog 28 #[v, .int .i64 x] w fun e w' => e = .returned (.bool (z.contains x)) ∧ w' = w := by
  obtain ⟨A, c, hv, hc, hx⟩ := h
  rw [intVals_length] at *
  subst hv
  rcases Nat.eq_zero_or_pos z.length with h0 | h0
  · obtain rfl : z = [] := List.length_eq_zero_iff.1 h0
    exact Try.slices_Contains_int_empty A c x w
  · obtain ⟨g, off, rfl, _, hcell⟩ := hx h0
    have h1 := Try.slices_Contains_int g off z.length c z x w (Nat.le_refl _) (by omega) (fun j hj => by
      have hs : (intVals z)[j]? = some (.int .i64 (z.getD j 0)) := by
        have := intVals_get z j z[j] (List.getElem?_eq_getElem hj)
        rw [this]
        simp [List.getD, List.getElem?_eq_getElem hj]
      exact hcell j _ hs)
    rw [List.take_of_length_le (Nat.le_refl _)] at h1
    exact h1
theorem l3Has_any (w : World) (B : Nat) (v : Value) (z : List Int) (x : Int) (h : Lst w B v (intVals z)) (hz : z.length ≤ 1000000000) :
    Calls Try.prog 27 #[v, .int .i64 x] w fun e w' => e = .returned (.bool (z.contains x)) ∧ w' = w := by
  obtain ⟨A, c, hv, hc, hx⟩ := h
  rw [intVals_length] at *
  subst hv
  have HX := Lib.hid hx
  clear hx
  obtain ⟨n, hn⟩ : ∃ n, z.length = n := ⟨_, rfl⟩
  have HN := Lib.hid hn
  obtain ⟨r, hr⟩ : ∃ r, z.contains x = r := ⟨_, rfl⟩
  have HR := Lib.hid hr
  rw [hn] at hz hc ⊢
  rw [hr]
  clear hn hr
  go_enter Try.func27, Try.ntmps27
  go_wp2_with fail
  go_loopw [5] (fun i wr => ∃ k : Nat, k ≤ n ∧ i = .int .i64 (k : Int) ∧ (∀ y ∈ z.take k, y ≠ x) ∧ wr = w) (fun i _ => n - (intOf i).toNat)
  case atStart => exact ⟨0, Nat.zero_le _, rfl, by simp, rfl⟩
  case round =>
    obtain ⟨k, hk, rfl, ha, rfl⟩ := hrel
    have HA := Lib.hid ha
    clear ha
    by_cases hlt : k < n
    · obtain ⟨y, hy⟩ : ∃ y, z[k]? = some y := ⟨_, List.getElem?_eq_getElem (by have := HN.out; omega)⟩
      obtain ⟨g, off, rfl, _, hcg⟩ := HX.out (by have := HN.out; omega)
      have hc1 := hcg k _ (intVals_get _ _ _ hy)
      have HY := Lib.hid hy
      clear hy hcg
      have hi1 : (k : Int) < (n : Int) := by omega
      have hi0 : (0 : Int) ≤ (k : Int) := by omega
      by_cases e : y = x
      · obtain rfl : r = true := by
          rw [← HR.out, List.contains_iff_mem, ← e]
          exact List.mem_of_getElem? HY.out
        subst e
        have h2 : (y == y) = true := by simp
        go_wp2
        go_ret
        exact ⟨rfl, rfl⟩
      · have h2 : (y == x) = false := by simpa using e
        have HA2 := Lib.hid (show ∀ y ∈ z.take (k + 1), y ≠ x by
          rw [List.take_add_one, HY.out]
          intro u hu
          rcases List.mem_append.1 hu with hu | hu
          · exact HA.out u hu
          · simp at hu; rw [hu]; exact e)
        clear e
        go_wp2
        go_roundw
        case rel => exact ⟨k + 1, by omega, by go_num, HA2.out, trivial⟩
        case measure => simp [intOf]; omega
    · obtain rfl : r = false := by
        rw [← HR.out]
        cases hcc : z.contains x with
        | false => rfl
        | true =>
          have hm : x ∈ z := List.contains_iff_mem.1 hcc
          exact absurd rfl (HA.out x (by rw [List.take_of_length_le (by have := HN.out; omega)]; exact hm))
      go_wp2
      go_ret
      exact ⟨rfl, rfl⟩
theorem packLess_any (w : World) (no : Int) (v vn : Value) (l : List Itm) (ns : List Int) (hl : Lp w w.heap.size v (ivals l)) (hns : Lst w w.heap.size vn (intVals ns)) (hn : l.length ≤ 1048600) (hz : ns.length ≤ 1000000000) :
    Calls Try.prog 18 #[packV no v, vn] w fun e w' => ∃ v', e = .returned (packV no v') ∧ OwnP 45 w.heap.size w' v' (ivals (lessL l ns)) ∧ Below w.heap.size w w' := by
  obtain ⟨i0, hi, hz0, hz1, hz2⟩ := infoItem_parts
  obtain ⟨A, c, hv⟩ := lp_form hl
  subst hv
  obtain ⟨An, cn, hvn⟩ : ∃ A c, vn = .slice A ns.length c := by
    obtain ⟨A, c, h, _⟩ := hns
    exact ⟨A, c, by rw [h, intVals_length]⟩
  subst hvn
  obtain ⟨W1, hW1⟩ : ∃ W, W = (w.alloc (.cells #[.int .i64 no, .slice A (ivals l).length c] 30)).alloc (.cells #[.int .i64 0, .slice none 0 0] 30) := ⟨_, rfl⟩
  have hs1 : W1.heap.size = w.heap.size + 2 := by rw [hW1]; simp
  have HS1 := Lib.hid hs1
  have hb1 : Below w.heap.size w W1 := by rw [hW1]; exact ((Below.refl _ _).alloc (Nat.le_refl _) _).alloc (by simp) _
  have HB1 := Lib.hid hb1
  have t1 : Two W1 (w.heap.size + 1) 30 (.int .i64 0) (.slice none 0 0) := by
    rw [hW1]
    have := two_new (w.alloc (.cells #[.int .i64 no, .slice A (ivals l).length c] 30)) (.int .i64 0) (.slice none 0 0) 30
    simpa using this
  obtain ⟨X, hX⟩ : ∃ X, X = W1.alloc (.cells #[.int .i64 no, .slice none 0 0] 30) := ⟨_, rfl⟩
  have hxs : X.heap.size = w.heap.size + 3 := by rw [hX]; simp; omega
  have HXS := Lib.hid hxs
  have T2 := Lib.hid (show Two X (w.heap.size + 2) 30 (.int .i64 no) (.slice none 0 0) by rw [hX, ← hs1]; exact two_new _ _ _ _)
  have HBX := Lib.hid (show Below W1.heap.size W1 X by rw [hX]; exact (Below.refl _ _).alloc (Nat.le_refl _) _)
  have HT1 := Lib.hid t1
  have HL := Lib.hid (lp_next hl hb1)
  have HNS := Lib.hid (lst_next hns hb1)
  have HXE := Lib.hid (show X = ((w.alloc (.cells #[.int .i64 no, .slice A (ivals l).length c] 30)).alloc (.cells #[.int .i64 0, .slice none 0 0] 30)).alloc (.cells #[.int .i64 no, .slice none 0 0] 30) by rw [hX, hW1])
  rw [ivals_length] at *
  obtain ⟨n, hnn⟩ : ∃ n, l.length = n := ⟨_, rfl⟩
  have HN := Lib.hid hnn
  obtain ⟨nn, hnm⟩ : ∃ n, ns.length = n := ⟨_, rfl⟩
  have HNN := Lib.hid hnm
  rw [hnn] at hn HL HXE ⊢
  rw [hnm] at hz HNS ⊢
  clear hnn hl hns hW1 hX hs1 hb1 t1 hxs hnm
  go_enter Try.func18, Try.ntmps18
  go_wp2_with fail
  rw [← HXE.out]
  obtain ⟨b2, hb2⟩ : ∃ b, b = w.heap.size + 2 := ⟨_, rfl⟩
  have HB2 := Lib.hid hb2
  have T2' : Hid (Two X b2 30 (.int .i64 no) (.slice none 0 0)) := Lib.hid (by rw [hb2]; exact T2.out)
  rw [show w.heap.size + 1 + 1 = b2 by omega]
  clear hb2
  go_loopw [14] (fun i wr => ∃ (k : Nat) (o : Value), k ≤ n ∧ i = .int .i64 (k : Int) ∧ Two wr b2 30 (.int .i64 no) o ∧ OwnP 45 X.heap.size wr o (ivals (lessL (l.take k) ns)) ∧ Below W1.heap.size W1 wr ∧ X.heap.size ≤ wr.heap.size) (fun i _ => n - (intOf i).toNat)
  case atStart => exact ⟨0, _, Nat.zero_le _, rfl, T2'.out, ownP_nil _ _ _, HBX.out, Nat.le_refl _⟩
  case round =>
    obtain ⟨k, o, hk, rfl, h2, ho, hb, hs⟩ := hrel
    have H2 := Lib.hid h2
    have HO := Lib.hid ho
    have HB := Lib.hid hb
    clear h2 ho hb
    by_cases hlt : k < n
    · obtain ⟨⟨a, b⟩, hsk⟩ : ∃ s, l[k]? = some s := ⟨_, List.getElem?_eq_getElem (by have := HN.out; omega)⟩
      obtain ⟨g, off, hA, hg, h1, h2⟩ := lp_at (lp_next HL.out HB.out) (ivals_get hsk)
      subst hA
      have HT := Lib.hid (lessL_take (ns := ns) hsk)
      clear hsk hg
      have hi1 : (k : Int) < (n : Int) := by omega
      have HBA := Lib.hid (HB.out.alloc HB.out.size (.cells #[.int .i64 a, .string b] 45))
      have HCO := Lib.hid (contains_any (wr.alloc (.cells #[.int .i64 a, .string b] 45)) W1.heap.size (.slice An nn cn) ns a (lst_below HNS.out HBA.out) (by rw [HNN.out]; exact hz))
      have HTW := Lib.hid (H2.out.keep (World.grownBy_alloc wr (.cells #[.int .i64 a, .string b] 45) none) (by simp))
      have hcell := HTW.out.c1
      cases hco : ns.contains a with
      | false =>
        rw [hco] at HCO
        have HT2 := Lib.hid (show lessL (l.take (k + 1)) ns = lessL (l.take k) ns by rw [HT.out, hco]; rfl)
        clear hco hcell
        go_wp2_with fail
        refine HCO.out.mono ?_
        rintro e w' ⟨rfl, rfl⟩
        go_wp2
        go_roundw
        case rel => exact ⟨k + 1, o, by omega, by go_num, HTW.out, by rw [HT2.out]; exact ownP_below HO.out ((Below.refl _ _).alloc (Nat.le_refl _) _), HBA.out, by simp; omega⟩
        case measure => simp [intOf]; omega
      | true =>
        rw [hco] at HCO
        have HT2 := Lib.hid (show lessL (l.take (k + 1)) ns = lessL (l.take k) ns ++ [(a, b)] by rw [HT.out, hco]; rfl)
        have HLE := Lib.hid (show (lessL (l.take k) ns).length ≤ k from Nat.le_trans (lessL_le _ _) (List.length_take_le _ _))
        clear hco
        go_wp2_with fail
        refine HCO.out.mono ?_
        rintro e w' ⟨rfl, rfl⟩
        have HOA := Lib.hid (ownP_below HO.out (((Below.refl _ _).alloc (Nat.le_refl _) (.cells #[.int .i64 a, .string b] 45)).alloc (by simp) (.cells #[.int .i64 a, .string b] 45)))
        go_wp2_with (at_builtin; go_must (refine wpList_append_r X.heap.size _ rfl _ _ 28 45 rfl i0 _ 24 Try.underlying28 hi hz0 hz1 hz2 rfl (by omega) o _ rfl HOA.out (by simp; omega) _ 1 1 [(.int .i64 a, .string b)] rfl rfl (news_one2 _ _ _ _ _) (ones_twoI _ _ rfl rfl) (by rw [ivals_length]; have := HLE.out; simp; omega) ?_); intro v1 w1 ho1 hg1 _; have HO1 := Lib.hid ho1; have HG1 := Lib.hid hg1; clear ho1 hg1; obtain ⟨g1, c1, hv1, _⟩ := own_someP HO1.out (by simp); have HV1 := Lib.hid (show v1 = .slice (some ⟨g1, 0, none⟩) ((ivals (lessL (l.take k) ns)).length + 1) c1 by rw [hv1, List.length_append]; rfl); clear hv1; have hne1 : some b2 ≠ o.ownBlock := (fun e => by have := (ownP_lt HO.out e.symm).1; have := HXS.out; have := HB2.out; omega); have HT3 := Lib.hid ((HTW.out.keep (World.grownBy_alloc _ (.cells #[.int .i64 a, .string b] 45) none) (by simp)).keep HG1.out hne1); clear hne1; rw [HV1.out]; have hc3 := HT3.out.c1; have hf3 := HT3.out.f 1)
        have HB3 := Lib.hid (bel_gb (HBA.out.alloc HBA.out.size (.cells #[.int .i64 a, .string b] 45)) HG1.out (by have := HBA.out.size; simp at this ⊢; omega) (fun g hg => by have := (ownP_lt HO.out hg).1; have := HXS.out; have := HS1.out; omega))
        have HOF := Lib.hid (show OwnP 45 X.heap.size w1 (.slice (some ⟨g1, 0, none⟩) ((ivals (lessL (l.take k) ns)).length + 1) c1) (ivals (lessL (l.take (k + 1)) ns)) by rw [HT2.out, ivals_snoc, ← HV1.out]; exact HO1.out)
        go_roundw
        case rel => exact ⟨k + 1, _, by omega, by go_num, HT3.out.set1 _, ownP_set HOF.out (by have := HXS.out; have := HB2.out; omega) 1 _, HB3.out.setCell (by have := HS1.out; have := HB2.out; show W1.heap.size ≤ b2; omega) _, by have h := HG1.out.size; simp at h ⊢; omega⟩
        case measure => simp [intOf]; omega
    · have hkn : k = n := by omega
      subst hkn
      have HF := Lib.hid (show lessL (l.take k) ns = lessL l ns by rw [List.take_of_length_le (by rw [HN.out]; exact Nat.le_refl _)])
      obtain ⟨A', c', ho'⟩ := own_formP HO.out
      subst ho'
      rw [HF.out] at HO H2
      obtain ⟨m, hm⟩ : ∃ m, (ivals (lessL l ns)).length = m := ⟨_, rfl⟩
      have HM := Lib.hid hm
      have HT1w := Lib.hid (show Two wr (w.heap.size + 1) 30 (.int .i64 0) (.slice none 0 0) from (HB.out.block _ (by have := HS1.out; omega)).trans HT1.out)
      have f1 := H2.out.c0
      have f2 := H2.out.c1
      have f3 := HT1w.out.c0
      have f4 := HT1w.out.c1
      have f5 := HT1w.out.f 0
      have f6 := HT1w.out.f 1
      rw [hm] at f2
      clear hm
      go_wp2
      refine bodyPost_ret_by (v := packV no (.slice A' m c')) ?_ rfl ⟨_, rfl, ?_, ?_⟩
      · simp [results, Try.results18, Try.isAgg30, Try.sizeOf30, go_sem, f3, f4]
      · have h := HO.out
        rw [HM.out] at h
        exact ownP_two h (by have := HXS.out; omega)
      · exact ((bel2 HB1.out HB.out).setCell (by show w.heap.size ≤ w.heap.size + 1; omega) _).setCell (by show w.heap.size ≤ w.heap.size + 1; omega) _
end
end Go.Proofs.Ytkjginibdablnaa
