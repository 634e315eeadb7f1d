/- Items in order, in the reference: one more is put; a pack is made; whether a pack is one. -/
import Derived.Test.YtkjginibdablnaaDoorPackLess
import Derived.Test.YtkjginibdablnaaDoorHeapP
import Derived.Test.YtkjginibdablnaaDoorPad
import Derived.Test.YtkjginibdablnaaDoorNameS
namespace Go.Proofs.YtkjginibdablnaaDoor
open Go.RowKit
def putI : List Itm → Itm → List Itm
  | [], x => [x]
  | y :: l, x => if x.1 < y.1 then x :: y :: l else y :: putI l x
theorem putI_length : ∀ (l : List Itm) (x : Itm), (putI l x).length = l.length + 1
  | [], _ => rfl
  | y :: l, x => by
    unfold putI
    split
    · rfl
    · simp [putI_length l x]
theorem putI_none : ∀ {l : List Itm} {x : Itm}, (∀ y ∈ l, ¬ x.1 < y.1) → putI l x = l ++ [x]
  | [], _, _ => rfl
  | y :: l, x, h => by
    unfold putI
    rw [if_neg (h y (by simp)), putI_none fun z hz => h z (by simp [hz])]
    rfl
theorem putI_some : ∀ {l : List Itm} {x z : Itm}, (∃ y ∈ l, x.1 < y.1) → putI (l ++ [z]) x = putI l x ++ [z]
  | [], _, _, h => by
    obtain ⟨y, hy, _⟩ := h
    cases hy
  | y :: l, x, z, h => by
    show (if x.1 < y.1 then x :: y :: (l ++ [z]) else y :: putI (l ++ [z]) x) = (if x.1 < y.1 then x :: y :: l else y :: putI l x) ++ [z]
    by_cases hxy : x.1 < y.1
    · rw [if_pos hxy, if_pos hxy]
      rfl
    · rw [if_neg hxy, if_neg hxy, putI_some (l := l)]
      · rfl
      · obtain ⟨u, hu, hlt⟩ := h
        rcases List.mem_cons.1 hu with rfl | hu
        · exact absurd hlt hxy
        · exact ⟨u, hu, hlt⟩
theorem putI_last {l : List Itm} {x z : Itm} (h : ∀ y ∈ l, ¬ x.1 < y.1) (hz : x.1 < z.1) : putI (l ++ [z]) x = l ++ [x] ++ [z] := by
  induction l with
  | nil => simp [putI, hz]
  | cons y l ih =>
    show (if x.1 < y.1 then x :: y :: (l ++ [z]) else y :: putI (l ++ [z]) x) = _
    rw [if_neg (h y (by simp)), ih fun u hu => h u (by simp [hu])]
    rfl
theorem putI_perm : ∀ (l : List Itm) (x : Itm), (putI l x).Perm (x :: l)
  | [], _ => List.Perm.refl _
  | y :: l, x => by
    unfold putI
    split
    · exact List.Perm.refl _
    · exact ((putI_perm l x).cons y).trans (List.Perm.swap ..)
theorem putI_srt : ∀ {l : List Itm} {x : Itm}, Srt l → Srt (putI l x)
  | [], x, _ => List.pairwise_singleton _ _
  | y :: l, x, h => by
    obtain ⟨h1, h2⟩ := List.pairwise_cons.1 h
    unfold putI
    split
    · rename_i hxy
      refine List.pairwise_cons.2 ⟨fun z hz => ?_, h⟩
      rcases List.mem_cons.1 hz with rfl | hz
      · omega
      · have := h1 z hz
        omega
    · rename_i hxy
      refine List.pairwise_cons.2 ⟨fun z hz => ?_, putI_srt h2⟩
      rcases List.mem_cons.1 ((putI_perm l x).subset hz) with rfl | hz
      · omega
      · exact h1 z hz
theorem take_snocI {l : List Itm} {k : Nat} {s : Itm} (h : l[k]? = some s) : l.take (k + 1) = l.take k ++ [s] := by rw [List.take_add_one, h]; rfl
theorem ownP_al {T B : Nat} {w : World} {v : Value} {l : List (Value × Value)} (h : OwnP T B w v l) (o : Obj) : OwnP T B (w.alloc o) v l := ownP_below h ((Below.refl _ _).alloc (Nat.le_refl _) _)
theorem ownP_dr {T B : Nat} {w : World} {v : Value} {l : List (Value × Value)} (h : OwnP T B w v l) (n : Nat) : OwnP T B (w.drewN n) v l := ownP_below h ⟨rfl, rfl, rfl, Nat.le_refl _, fun _ _ => rfl⟩
theorem news_oneD (w : World) (n : Nat) (x y : Value) (T : TypeId) : ∀ j u, (flat [(x, y)])[j]? = some u → ((w.drewN n).alloc (.cells #[x, y] T)).cell? ((⟨w.heap.size, 0, none⟩ : Addr).add j) = some u :=
  news_one (w.drewN n) _ x y T (Below.refl _ _)
theorem bel_aldr (W : World) (n : Nat) (o : Obj) : Below W.heap.size W ((W.drewN n).alloc o) := by
  have h : Below W.heap.size W (W.drewN n) := ⟨rfl, rfl, rfl, Nat.le_refl _, fun _ _ => rfl⟩
  exact h.alloc (Nat.le_refl _) o
theorem own_step {T : Nat} {w W X w1 : World} {v v' : Value} {l m : List (Value × Value)} (h : Grew T w W v l) (ho : OwnP T w.heap.size w1 v' m) (hg : X.grownBy w1 v.ownBlock) (hX : Below W.heap.size W X := by first | exact bel_aldr _ _ _ | exact (Below.refl _ _).alloc (Nat.le_refl _) _) : Grew T w w1 v' m :=
  ⟨ho, bel_gb (bel2 h.2 hX) hg (Nat.le_trans h.2.size hX.size) fun _ e => (ownP_lt h.1 e).1⟩
theorem box_cellsI (w W : World) (a b : Value) (T : TypeId) (h : Below (w.heap.size + 1) (w.alloc (.cells #[a, b] T)) W) :
    W.cell? ⟨w.heap.size, 0, none⟩ = some a ∧ W.cell? ⟨w.heap.size, 1, none⟩ = some b := ⟨box_cell w W _ T 0 _ rfl h, box_cell w W _ T 1 _ rfl h⟩
theorem put_factsI {w W X : World} {a b c d : Value} {T : TypeId} {g off k : Nat} (hW : W = w.alloc (.cells #[a, b] T)) (hX : Below W.heap.size W X) (hg : g < w.heap.size)
    (h1 : w.cell? ⟨g, off + k * 2, none⟩ = some c) (h2 : w.cell? ⟨g, off + k * 2 + 1, none⟩ = some d) :
    X.cell? ⟨w.heap.size, 0, none⟩ = some a ∧ X.cell? ⟨w.heap.size, 1, none⟩ = some b ∧ X.cell? ⟨g, off + k * 2, none⟩ = some c ∧ X.cell? ⟨g, off + k * 2 + 1, none⟩ = some d := by
  have hs : W.heap.size = w.heap.size + 1 := by rw [hW]; simp
  obtain ⟨b1, b2⟩ := box_cellsI w X a b T (by rw [← hW, ← hs]; exact hX)
  have hwX : Below w.heap.size w X := (show Below w.heap.size w W by rw [hW]; exact (Below.refl _ _).alloc (Nat.le_refl _) _).trans (hX.mono (by omega))
  exact ⟨b1, b2, (hwX.cell (p := ⟨g, off + k * 2, none⟩) hg).trans h1, (hwX.cell (p := ⟨g, off + k * 2 + 1, none⟩) hg).trans h2⟩
theorem grew_drI {T : Nat} {w W : World} {v : Value} {l : List (Value × Value)} (h : Grew T w W v l) (n : Nat) : Grew T w (W.drewN n) v l := ⟨ownP_dr h.1 n, h.2.os, h.2.tape, h.2.output, h.2.size, h.2.block⟩
section
set_option maxHeartbeats 3200000
theorem l3Put_any (w : World) (v : Value) (l : List Itm) (a : Int) (b' : ByteArray) (hl : Lp w w.heap.size v (ivals l)) (hn : l.length ≤ 1100000) :
    Calls Tryd.prog 67 #[v, .agg #[.int .i64 a, .string b']] w fun e w' => ∃ v', e = .returned v' ∧ OwnP 40 w.heap.size w' v' (ivals (putI l (a, b'))) ∧ Below w.heap.size w w' := by
  obtain ⟨i0, hi, hz0, hz1, hz2⟩ := infoItem_parts
  obtain ⟨A, c, rfl, hc, hx⟩ := hl
  rw [ivals_length] at *
  have HX := Lib.hid hx
  clear hx
  obtain ⟨n, hnn⟩ : ∃ n, l.length = n := ⟨_, rfl⟩
  have HN := Lib.hid hnn
  rw [hnn] at hn hc ⊢
  clear hnn
  obtain ⟨W, hW⟩ : ∃ W, W = w.alloc (.cells #[.int .i64 a, .string b'] 40) := ⟨_, rfl⟩
  have hWs : W.heap.size = w.heap.size + 1 := by rw [hW]; simp
  have HW := Lib.hid hW
  have HBW := Lib.hid (show Below w.heap.size w W by rw [hW]; exact (Below.refl _ _).alloc (Nat.le_refl _) _)
  have HE0 : Hid (Grew 40 W (W.alloc (.cells #[] 40)) (.slice (some ⟨W.heap.size, 0, none⟩) 0 0) (ivals [])) := Lib.hid ⟨ownP_empty _ W, (Below.refl _ _).alloc (Nat.le_refl _) _⟩
  go_enter Tryd.func67, Tryd.ntmps67
  go_wp2_with fail
  rw [← hW]
  go_loopw [5, 6, 7] (fun o p i wr => ∃ (k : Nat) (L : List Itm) (b : Bool), k ≤ n ∧ p = .bool b ∧ i = .int .i64 (k : Int) ∧ Grew 40 W wr o (ivals L) ∧ L.length ≤ k + 1 ∧ (b = false → L = l.take k ∧ ∀ y ∈ l.take k, y.1 ≤ a) ∧ (b = true → L = putI (l.take k) (a, b') ∧ ∃ y ∈ l.take k, a < y.1)) (fun _ _ i _ => n - (intOf i).toNat)
  case atStart =>
    have h1 := HE0.out
    rw [show (⟨W.heap.size, 0, none⟩ : Addr) = ⟨w.heap.size + 1, 0, none⟩ by rw [hWs]] at h1
    exact ⟨0, [], false, Nat.zero_le _, rfl, rfl, h1, by simp, (fun _ => by simp), (fun h => by cases h)⟩
  case round =>
    obtain ⟨k, L, p, hk, rfl, rfl, hgr, hl1, hf, ht⟩ := hrel
    have HGR := Lib.hid hgr
    have HF := Lib.hid hf
    have HT := Lib.hid ht
    clear hgr hf ht
    by_cases hlt : k < n
    · obtain ⟨⟨c, d⟩, hs⟩ : ∃ s, l[k]? = some s := ⟨_, List.getElem?_eq_getElem (by have := HN.out; omega)⟩
      obtain ⟨g, off, rfl, hg, hcg⟩ := HX.out (by have := HN.out; omega)
      obtain ⟨h1, h2⟩ := hcg k _ (ivals_get hs)
      have H1 := Lib.hid h1
      have H2 := Lib.hid h2
      have HK := Lib.hid (take_snocI hs)
      obtain ⟨q1, q2, q3, q4⟩ := put_factsI HW.out HGR.out.2 hg H1.out H2.out
      clear h1 h2 hcg hs
      have hi1 : (k : Int) < (n : Int) := by omega
      have hi0 : (0 : Int) ≤ (k : Int) := by omega
      cases p with
      | true =>
        have HL := Lib.hid (show L ++ [(c, d)] = putI (l.take (k + 1)) (a, b') ∧ ∃ y ∈ l.take (k + 1), a < y.1 by
          obtain ⟨h1, h2⟩ := HT.out rfl
          rw [HK.out]
          refine ⟨by rw [putI_some h2, h1], ?_⟩
          obtain ⟨y, hy, hlt⟩ := h2
          exact ⟨y, by simp [hy], hlt⟩)
        go_wp2_with fail
        go_quiet (fail)
        go_wp2_with (at_builtin; go_must (refine wpList_append_r W.heap.size _ rfl _ _ 27 40 rfl i0 _ 24 Tryd.underlying27 hi hz0 hz1 hz2 rfl (by omega) _ (ivals L) rfl (by first | exact ownP_al HGR.out.1 _ | exact ownP_al (ownP_dr HGR.out.1 _) _) (by have := HGR.out.2.size; simp; omega) _ 1 1 [(.int .i64 c, .string d)] rfl rfl (by first | exact news_one _ _ _ _ _ (Below.refl _ _) | exact news_oneD _ _ _ _ _) (ones_twoI _ _ rfl rfl) (by simp [ivals_length]; omega) ?_); intro v1 w1 ho1 hg1 _; have HGR1 := Lib.hid (own_step HGR.out ho1 hg1); clear ho1 hg1)
        go_roundw
        case rel => exact ⟨k + 1, L ++ [(c, d)], true, by omega, rfl, by go_num, by rw [ivals_snoc]; exact HGR1.out, by simp; omega, (fun h => by cases h), fun _ => HL.out⟩
        case measure => simp [intOf]; omega
      | false =>
        by_cases hge : a < c
        · have hd : decide (a < c) = true := decide_eq_true hge
          have HL := Lib.hid (show L ++ [(a, b')] ++ [(c, d)] = putI (l.take (k + 1)) (a, b') ∧ ∃ y ∈ l.take (k + 1), a < y.1 by
            obtain ⟨h1, h2⟩ := HF.out rfl
            rw [HK.out]
            exact ⟨by rw [putI_last (fun y hy => by have := h2 y hy; show ¬ a < y.1; omega) hge, h1], (c, d), by simp, hge⟩)
          have HLk := Lib.hid (show L.length ≤ k by rw [(HF.out rfl).1, List.length_take]; omega)
          clear hge
          go_wp2_with fail
          go_quiet (fail)
          go_wp2_with (at_builtin; first | ((refine wpList_append_r W.heap.size _ rfl _ _ 27 40 rfl i0 _ 24 Tryd.underlying27 hi hz0 hz1 hz2 rfl (by omega) _ (ivals L) rfl (by first | exact ownP_al HGR.out.1 _ | exact ownP_al (ownP_dr HGR.out.1 _) _) (by have := HGR.out.2.size; simp; omega) _ 1 1 [(.int .i64 a, .string b')] rfl rfl (by first | exact news_one _ _ _ _ _ (Below.refl _ _) | exact news_oneD _ _ _ _ _) (ones_twoI _ _ rfl rfl) (by simp [ivals_length]; omega) ?_); intro v1 w1 ho1 hg1 _; have HGR1 := Lib.hid (own_step HGR.out ho1 hg1); clear ho1 hg1; obtain ⟨r1, r2, r3, r4⟩ := put_factsI HW.out HGR1.out.2 hg H1.out H2.out) | (go_must (refine wpList_append_r W.heap.size _ rfl _ _ 27 40 rfl i0 _ 24 Tryd.underlying27 hi hz0 hz1 hz2 rfl (by omega) _ (ivals L ++ [(.int .i64 a, .string b')]) rfl (by first | exact ownP_al HGR1.out.1 _ | exact ownP_al (ownP_dr HGR1.out.1 _) _) (by have := HGR1.out.2.size; simp; omega) _ 1 1 [(.int .i64 c, .string d)] rfl rfl (by first | exact news_one _ _ _ _ _ (Below.refl _ _) | exact news_oneD _ _ _ _ _) (ones_twoI _ _ rfl rfl) (by simp [ivals_length]; omega) ?_); intro v1 w1 ho1 hg1 _; have HGR2 := Lib.hid (own_step HGR1.out ho1 hg1); clear ho1 hg1))
          go_roundw
          case rel => exact ⟨k + 1, L ++ [(a, b')] ++ [(c, d)], true, by omega, rfl, by go_num, by rw [ivals_snoc, ivals_snoc]; exact HGR2.out, by have := HLk.out; simp; omega, (fun h => by cases h), fun _ => HL.out⟩
          case measure => simp [intOf]; omega
        · have hd : decide (a < c) = false := decide_eq_false hge
          have HL := Lib.hid (show L ++ [(c, d)] = l.take (k + 1) ∧ ∀ y ∈ l.take (k + 1), y.1 ≤ a by
            obtain ⟨h1, h2⟩ := HF.out rfl
            rw [HK.out, h1]
            refine ⟨rfl, fun y hy => ?_⟩
            rcases List.mem_append.1 hy with hy | hy
            · exact h2 y hy
            · rw [List.mem_singleton.1 hy]; show c ≤ a; omega)
          clear hge
          go_wp2_with fail
          go_quiet (fail)
          go_wp2_with (at_builtin; go_must (refine wpList_append_r W.heap.size _ rfl _ _ 27 40 rfl i0 _ 24 Tryd.underlying27 hi hz0 hz1 hz2 rfl (by omega) _ (ivals L) rfl (by first | exact ownP_al HGR.out.1 _ | exact ownP_al (ownP_dr HGR.out.1 _) _) (by have := HGR.out.2.size; simp; omega) _ 1 1 [(.int .i64 c, .string d)] rfl rfl (by first | exact news_one _ _ _ _ _ (Below.refl _ _) | exact news_oneD _ _ _ _ _) (ones_twoI _ _ rfl rfl) (by simp [ivals_length]; omega) ?_); intro v1 w1 ho1 hg1 _; have HGR1 := Lib.hid (own_step HGR.out ho1 hg1); clear ho1 hg1)
          go_roundw
          case rel => exact ⟨k + 1, L ++ [(c, d)], false, by omega, rfl, by go_num, by rw [ivals_snoc]; exact HGR1.out, by simp; omega, (fun _ => HL.out), fun h => by cases h⟩
          case measure => simp [intOf]; omega
    · have hkn : k = n := by omega
      subst hkn
      have HE := Lib.hid (show l.take k = l from List.take_of_length_le (by rw [HN.out]; exact Nat.le_refl _))
      cases p with
      | true =>
        have HL := Lib.hid (show L = putI l (a, b') by have h := (HT.out rfl).1; rwa [HE.out] at h)
        go_wp2
        go_ret
        exact ⟨_, rfl, by rw [← HL.out]; exact ownP_less HGR.out.1 HBW.out.size, bel2 HBW.out HGR.out.2⟩
      | false =>
        have HL := Lib.hid (show L ++ [(a, b')] = putI l (a, b') by
          obtain ⟨h1, h2⟩ := HF.out rfl
          rw [HE.out] at h1 h2
          rw [putI_none (fun y hy => by have := h2 y hy; show ¬ a < y.1; omega), h1])
        obtain ⟨q1, q2⟩ := box_cellsI w wr (.int .i64 a) (.string b') 40 (by rw [← HW.out, ← hWs]; exact HGR.out.2)
        go_wp2_with (at_builtin; go_must (refine wpList_append_r W.heap.size _ rfl _ _ 27 40 rfl i0 _ 24 Tryd.underlying27 hi hz0 hz1 hz2 rfl (by omega) _ (ivals L) rfl (by first | exact ownP_al HGR.out.1 _ | exact ownP_al (ownP_dr HGR.out.1 _) _) (by have := HGR.out.2.size; simp; omega) _ 1 1 [(.int .i64 a, .string b')] rfl rfl (by first | exact news_one _ _ _ _ _ (Below.refl _ _) | exact news_oneD _ _ _ _ _) (ones_twoI _ _ rfl rfl) (by simp [ivals_length]; omega) ?_); intro v1 w1 ho1 hg1 _; have HGR1 := Lib.hid (own_step HGR.out ho1 hg1); clear ho1 hg1)
        go_ret
        exact ⟨_, rfl, by rw [← HL.out, ivals_snoc]; exact ownP_less HGR1.out.1 HBW.out.size, bel2 HBW.out HGR1.out.2⟩
end
end Go.Proofs.YtkjginibdablnaaDoor
