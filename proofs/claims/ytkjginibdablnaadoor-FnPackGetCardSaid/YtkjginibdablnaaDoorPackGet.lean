/- The chunk of a name in a pack. -/
import Derived.Test.YtkjginibdablnaaDoorImplOk
import Derived.Test.YtkjginibdablnaaDoorPackLessS
namespace Go.Proofs.YtkjginibdablnaaDoor
open Go.RowKit
def findI (l : List Itm) (name : Int) : Option Itm := l.find? fun x => decide (x.1 = name)
def getB (key : Int) (l : List Itm) (name : Int) : Bool := match findI l name with
  | some x => chunkB key x
  | none => false
def getT (key : Int) (l : List Itm) (name : Int) : ByteArray := match findI l name with
  | some x => chunkT key x
  | none => ByteArray.empty
theorem findI_some {l : List Itm} {name : Int} {k : Nat} {x : Itm} (h : l[k]? = some x) (hx : x.1 = name) (hl : ∀ y ∈ l.take k, y.1 ≠ name) : findI l name = some x := by
  have e : l = l.take k ++ x :: l.drop (k + 1) := by
    have hk := (List.getElem?_eq_some_iff.1 h).1
    conv => lhs; rw [← List.take_append_drop k l]
    rw [List.drop_eq_getElem_cons hk, (List.getElem?_eq_some_iff.1 h).2]
  unfold findI
  rw [e, List.find?_append, List.find?_eq_none.2 (fun y hy => by simpa using hl y hy), Option.none_or, List.find?_cons_of_pos (by simpa using hx)]
theorem findI_none {l : List Itm} {name : Int} (hl : ∀ y ∈ l, y.1 ≠ name) : findI l name = none := List.find?_eq_none.2 fun y hy => by simpa using hl y hy
theorem take_ne {l : List Itm} {name : Int} {k : Nat} {x : Itm} (h : l[k]? = some x) (hx : x.1 ≠ name) (hl : ∀ y ∈ l.take k, y.1 ≠ name) : ∀ y ∈ l.take (k + 1), y.1 ≠ name := by
  rw [List.take_add_one, h]
  intro y hy
  rcases List.mem_append.1 hy with hy | hy
  · exact hl y hy
  · simp at hy; rw [hy]; exact hx
def Got (key : Int) (l : List Itm) (name : Int) (w : World) (e : Ending) (w' : World) : Prop := e = .returned (.tuple #[.string (getT key l name), .bool (getB key l name)]) ∧ Below w.heap.size w w'
section
set_option maxHeartbeats 1600000
theorem closureI_any (a : Int) (b : ByteArray) (name : Int) (B : Nat) (W : World) (hB : B < W.heap.size) (hc : W.cell? ⟨B, 0, none⟩ = some (.int .i64 name)) :
    Calls Tryd.prog 40 #[.agg #[.int .i64 a, .string b], .pointer (some ⟨B, 0, none⟩)] W fun e w' => e = .returned (.bool (a == name)) ∧ Below W.heap.size W w' := by
  have hne : B ≠ W.heap.size := by omega
  have h2 := cell_alI hc (.cells #[.int .i64 a, .string b] 40)
  obtain ⟨o, ho⟩ : ∃ o, (a == name) = o := ⟨_, rfl⟩
  go_enter Tryd.func40, Tryd.ntmps40
  go_wp2
  go_ret
  exact ⟨ret_bool (by first | rfl | simp [ho]), (Below.refl _ _).alloc (Nat.le_refl _) _⟩
theorem indexFuncI_any (w : World) (v : Value) (l : List Itm) (B : Nat) (name : Int) (hl : Lp w w.heap.size v (ivals l)) (hn : l.length ≤ 1048600) (hB : B < w.heap.size) (hc : w.cell? ⟨B, 0, none⟩ = some (.int .i64 name)) :
    Calls Tryd.prog 39 #[v, .func (.func 40) #[] #[.pointer (some ⟨B, 0, none⟩)]] w fun e w' =>
      ((∃ (k : Nat) (x : Itm), e = .returned (.int .i64 (k : Int)) ∧ l[k]? = some x ∧ x.1 = name ∧ ∀ y ∈ l.take k, y.1 ≠ name) ∨ (e = .returned (.int .i64 (-1)) ∧ ∀ y ∈ l, y.1 ≠ name)) ∧ Below w.heap.size w w' := by
  obtain ⟨A, c, rfl, hcc, hx⟩ := hl
  rw [ivals_length] at *
  have HX := Lib.hid hx
  have HC := Lib.hid (fun (W : World) (a : Int) (b : ByteArray) (hW : Below w.heap.size w W) => closureI_any a b name B W (by have := hW.size; omega) ((hW.cell (p := ⟨B, 0, none⟩) hB).trans hc))
  clear hx hc
  obtain ⟨n, hnn⟩ : ∃ n, l.length = n := ⟨_, rfl⟩
  have HN := Lib.hid hnn
  rw [hnn] at hn hcc ⊢
  clear hnn
  go_enter Tryd.func39, Tryd.ntmps39
  go_wp2_with fail
  go_loopw [5, 8] (fun _ i wr => ∃ k : Nat, k ≤ n ∧ i = .int .i64 (k : Int) ∧ (∀ y ∈ l.take k, y.1 ≠ name) ∧ Below w.heap.size w wr) (fun _ i _ => n - (intOf i).toNat)
  case atStart => exact ⟨0, Nat.zero_le _, rfl, by simp, Below.refl _ _⟩
  case round =>
    obtain ⟨k, hk, rfl, ha, hb⟩ := hrel
    have HA := Lib.hid ha
    have HB := Lib.hid hb
    clear ha hb
    by_cases hlt : k < n
    · obtain ⟨⟨a, b⟩, hs⟩ : ∃ s, l[k]? = some s := ⟨_, List.getElem?_eq_getElem (by have := HN.out; omega)⟩
      obtain ⟨g, off, rfl, hg, hcg⟩ := HX.out (by have := HN.out; omega)
      obtain ⟨h1, h2⟩ := hcg k _ (ivals_get hs)
      have hc1 := (HB.out.cell (p := ⟨g, off + k * 2, none⟩) hg).trans h1
      have hc2 := (HB.out.cell (p := ⟨g, off + k * 2 + 1, none⟩) hg).trans h2
      have HS := Lib.hid hs
      have HCx := Lib.hid (HC.out wr a b HB.out)
      clear h1 h2 hcg hs
      have hi1 : (k : Int) < (n : Int) := by omega
      by_cases hpx : a = name
      · have HPX := Lib.hid hpx
        rw [show (a == name) = true from beq_iff_eq.2 hpx] at HCx
        clear hpx
        go_wp2_with fail
        refine HCx.out.mono ?_
        rintro e w' ⟨rfl, hb⟩
        have HB2 := Lib.hid (HB.out.trans (hb.mono HB.out.size))
        clear hb
        go_wp2
        go_ret
        exact ⟨.inl ⟨k, (a, b), rfl, HS.out, HPX.out, HA.out⟩, HB2.out⟩
      · have HF := Lib.hid (take_ne HS.out (show (a, b).1 ≠ name from hpx) HA.out)
        rw [show (a == name) = false from beq_eq_false_iff_ne.2 hpx] at HCx
        clear hpx
        go_wp2_with fail
        refine HCx.out.mono ?_
        rintro e w' ⟨rfl, hb⟩
        have HB2 := Lib.hid (HB.out.trans (hb.mono HB.out.size))
        clear hb
        go_wp2
        go_roundw
        case rel => exact ⟨k + 1, by omega, by go_num, HF.out, HB2.out⟩
        case measure => simp [intOf]; omega
    · have HF := Lib.hid (show ∀ y ∈ l, y.1 ≠ name by
        have h1 := HA.out
        rwa [List.take_of_length_le (by have := HN.out; omega)] at h1)
      go_wp2
      go_ret
      exact ⟨.inr ⟨rfl, HF.out⟩, HB.out⟩
theorem packGet_any (key no name : Int) (v : Value) (l : List Itm) (w : World) (a0 a1 : Addr) (he : Errs w a0 a1) (hl : Lp w w.heap.size v (ivals l)) (hn : l.length ≤ 1048600) (hs : ∀ s ∈ l, s.2.size ≤ 1048576) :
    Calls Tryd.prog 16 #[.int .i64 key, packV no v, .int .i64 name] w (Got key l name w) := by
  obtain ⟨A, c, hv⟩ := lp_form hl
  subst hv
  rw [ivals_length] at *
  obtain ⟨W1, hW1⟩ : ∃ W, W = w.alloc (.cells #[.int .i64 no, .slice A l.length c] 29) := ⟨_, rfl⟩
  obtain ⟨W, hW⟩ : ∃ W, W = W1.alloc (.cells #[.int .i64 name] 3) := ⟨_, rfl⟩
  have hs1 : W1.heap.size = w.heap.size + 1 := by rw [hW1]; simp
  have hsW : W.heap.size = w.heap.size + 2 := by rw [hW]; simp; omega
  have hb1 : Below w.heap.size w W1 := by rw [hW1]; exact (Below.refl _ _).alloc (Nat.le_refl _) _
  have hb2 : Below W1.heap.size W1 W := by rw [hW]; exact (Below.refl _ _).alloc (Nat.le_refl _) _
  have HBW := Lib.hid (bel2 hb1 hb2)
  have HT := Lib.hid (show Two W w.heap.size 29 (.int .i64 no) (.slice A l.length c) from (hb2.block _ (by omega)).trans (by rw [hW1]; exact two_new _ _ _ _))
  have hc : W.cell? ⟨w.heap.size + 1, 0, none⟩ = some (.int .i64 name) := by rw [hW, ← hs1]; exact lit_at W1 #[.int .i64 name] 3 0 _ rfl
  have HL := Lib.hid (lp_next hl HBW.out)
  have HE := Lib.hid (he.below HBW.out)
  have HSZ := Lib.hid hs
  have HIF := Lib.hid (indexFuncI_any W (.slice A l.length c) l (w.heap.size + 1) name HL.out hn (by omega) hc)
  have HW := Lib.hid (show W = (w.alloc (.cells #[.int .i64 no, .slice A l.length c] 29)).alloc (.cells #[.int .i64 name] 3) by rw [hW, hW1])
  obtain ⟨n, hnn⟩ : ∃ n, l.length = n := ⟨_, rfl⟩
  have HN := Lib.hid hnn
  rw [hnn] at HT HL HIF HW hn ⊢
  have q1 := HT.out.c1
  clear hl hs he hs1 hsW hb1 hb2 hW hW1 hc hnn
  go_enter Tryd.func16, Tryd.ntmps16
  go_wp2_with fail
  rw [← HW.out]
  refine HIF.out.mono ?_
  rintro e w1 ⟨hor, hb⟩
  have HB := Lib.hid hb
  have HBF := Lib.hid (bel2 HBW.out hb)
  have r1 := (HT.out.keep (grown_of_bel hb none) (by simp)).c1
  clear hb q1
  rcases hor with ⟨k, ⟨a, b⟩, rfl, hk, hx, hbe⟩ | ⟨rfl, hno⟩
  · have HF := Lib.hid (findI_some hk hx hbe)
    have HG := Lib.hid (show getB key l name = chunkB key (a, b) ∧ getT key l name = chunkT key (a, b) by unfold getB getT; rw [HF.out]; exact ⟨rfl, rfl⟩)
    have hkn : k < n := by rw [← HN.out]; exact (List.getElem?_eq_some_iff.1 hk).1
    have HSS := Lib.hid (show b.size ≤ maxLen by have h := HSZ.out _ (List.mem_of_getElem? hk); have h2 : b.size ≤ 1048576 := h; unfold maxLen; omega)
    obtain ⟨g, off, hA, hg, c1, c2⟩ := lp_at HL.out (ivals_get hk)
    subst hA
    have hc1 := (HB.out.cell (p := ⟨g, off + k * 2, none⟩) hg).trans c1
    have hc2 := (HB.out.cell (p := ⟨g, off + k * 2 + 1, none⟩) hg).trans c2
    have hi1 : (k : Int) < (n : Int) := by omega
    have hi0 : (0 : Int) ≤ (k : Int) := by omega
    clear hk hx hbe c1 c2 hg
    go_wp2_with fail
    refine (chunk_any key a b w1 a0 a1 (HE.out.below HB.out) HSS.out).mono ?_
    rintro e w2 ⟨rfl, hb2⟩
    have HB2 := Lib.hid (bel2 HBF.out hb2)
    clear hb2
    go_wp2
    go_ret2
    exact ⟨by rw [HG.out.1, HG.out.2]; rfl, HB2.out⟩
  · have HF := Lib.hid (findI_none hno)
    have HG := Lib.hid (show getB key l name = false ∧ getT key l name = ByteArray.empty by unfold getB getT; rw [HF.out]; exact ⟨rfl, rfl⟩)
    clear hno
    go_wp2
    go_ret2
    exact ⟨by rw [HG.out.1, HG.out.2]; rfl, HBF.out⟩
end
end Go.Proofs.YtkjginibdablnaaDoor
