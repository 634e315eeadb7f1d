/- The drawings of trees, on: the reference's way to put a file; a drawn tree. -/
import Derived.Test.YtndiofhinlogmaaDrawTree
namespace Go.Proofs.Ytndiofhinlogmaa
open Go.RowKit
theorem own_some {T B : Nat} {w : World} {v : Value} {l : List (Value × Value)} (h : OwnP T B w v l) (hl : 1 ≤ l.length) : ∃ g c, v = .slice (some ⟨g, 0, none⟩) l.length c ∧ B ≤ g := by
  rcases h.2 with ⟨_, h0⟩ | ⟨g, cap, cur, hv, hb, _⟩
  · omega
  · exact ⟨g, cap, hv, hb⟩
/-- what comes of a tree, a path and a text -/
def PutT (l : List Fil) (s : Fil) (w : World) (e : Ending) (w' : World) : Prop :=
  ∃ (v : Value) (L : List Fil) (ok : Bool), e = .returned (.tuple #[v, .bool ok]) ∧ OwnP 38 w.heap.size w' v (fvals L) ∧ (ok = true → FromF L l s ∧ L.length ≤ 6 ∧ 1 ≤ L.length) ∧ Below w.heap.size w w'
theorem belN {w w1 : World} (h : Below w.heap.size w w1) (n : Nat) : Below w.heap.size w (w1.drewN n) := ⟨h.os, h.tape, h.output, h.size, h.block⟩
theorem wpList_append_q (B : Nat) (W : World) {ops : Array Oper} {rest : List Oper} {o : Oper} {a : Act} {Q : Exit → Act → World → Prop} (hgd : o.guard = none) (s x : Operand)
    (t T : TypeId) (ho : o.op = .call { callee := .builtin .append, args := #[s, x], argTypes := #[t, t] })
    (i0 : TypeInfo) (z : Value) (bytes : Nat) (ht : Try.prog.underlying t = some (.slice T)) (hi : Try.prog.info? T = some i0) (hz0 : i0.zero = some z) (hz1 : i0.size = 2) (hz2 : i0.bytes = bytes) (hzs : z.cells.size = 2) (hby : bytes ≤ 1000)
    (v : Value) (l1 : List (Value × Value)) (hs : a.eval s = v) (hown : OwnP T B W v l1) (hB : B ≤ W.heap.size) (ad : Addr) (m c : Nat) (l2 : List (Value × Value)) (hx : a.eval x = .slice (some ad) m c) (hm : l2.length = m)
    (hnews : ∀ j u, (flat l2)[j]? = some u → W.cell? (ad.add j) = some u) (h1 : Ones l2) (hl : l1.length + l2.length ≤ 2000000) (h : ∀ v' w', OwnP T B w' v' (l1 ++ l2) → W.grownBy w' v.ownBlock → wpList Try.prog ops Q rest (a.put o.dst v') w') :
    wpList Try.prog ops Q (o :: rest) a W := by
  refine wpList_plain hgd fun K hK => ?_
  subst hm
  have hmul : (l1.length + l2.length) * bytes ≤ 2000000 * 1000 := Nat.mul_le_mul hl hby
  obtain ⟨v', w', hr, h2, h3, h4, h5⟩ := run_append_own_at (P := Try.prog) W B t o.type T i0 z 2 bytes ht hi hz0 hz1 hz2 hzs (by decide)
    v l1.length (flat l1) hown ad l2.length c (flat l2) (flat_length l2) hnews h1 (by unfold maxLen; omega) (by omega) hB
  unfold Oper.wp execOp
  simp only [ho, resolve, invoke, builtin, Sem.run_bind, Sem.run_pure, Result.andThen_ok, List.map_toArray, List.map_cons, List.map_nil, hs, hx, hr]
  exact hK _ _ (h v' w' (by unfold OwnP; rw [flat_append, List.length_append]; exact h2) h3)
theorem belDA (w : World) (n : Nat) (o : Obj) : Below w.heap.size w ((w.drewN n).alloc o) := (belN (Below.refl _ w) n).alloc (Nat.le_refl _) o
section
set_option maxHeartbeats 3200000
theorem treePut_any (w : World) (g0 c : Nat) (l : List Fil) (a b : ByteArray) (hl : Lp w w.heap.size (.slice (some ⟨g0, 0, none⟩) l.length c) (fvals l)) (hn : l.length ≤ 100) (ht : TameF l) (ha : a.size ≤ 5) (hb : b.size ≤ 45) :
    Calls Try.prog 49 #[.slice (some ⟨g0, 0, none⟩) l.length c, .string a, .string b] w (PutT l (a, b) w) := by
  obtain ⟨i0, hi, hz0, hz1, hz2⟩ := infoFile_parts
  have HL := Lib.hid hl
  have HT := Lib.hid ht
  have HTO := Lib.hid (treeOkS_any w _ l hl (by omega) (tameF_big ht))
  clear hl ht
  cases h1 : treeB l with
  | false =>
    rw [h1] at HTO
    clear h1
    go_enter Try.func49, Try.ntmps49
    go_wp2_with fail
    refine HTO.out.mono ?_
    rintro e w1 ⟨rfl, n, rfl⟩
    go_wp2
    go_ret2
    exact ⟨_, [], false, rfl, ownP_empty _ (w.drewN n), (fun h => by cases h), belDA _ _ _⟩
  | true =>
    rw [h1] at HTO
    clear h1
    cases h2 : pathB a.data.toList with
    | false =>
      have HP := Lib.hid (fun W => path_is a false h2 W)
      clear h2
      go_enter Try.func49, Try.ntmps49
      go_wp2_with fail
      refine HTO.out.mono ?_
      rintro e w1 ⟨rfl, n, rfl⟩
      go_wp2_with fail
      refine (HP.out _).mono ?_
      rintro e w1 ⟨rfl, m, rfl⟩
      go_wp2
      go_ret2
      exact ⟨_, [], false, rfl, ownP_empty _ _, (fun h => by cases h), belDA _ _ _⟩
    | true =>
      have HP := Lib.hid (fun W => path_is a true h2 W)
      clear h2
      cases h3 : textB b.data.toList with
      | false =>
        have HX := Lib.hid (fun W => text_isS b false h3 (by omega) W)
        clear h3
        go_enter Try.func49, Try.ntmps49
        go_wp2_with fail
        refine HTO.out.mono ?_
        rintro e w1 ⟨rfl, n, rfl⟩
        go_wp2_with fail
        refine (HP.out _).mono ?_
        rintro e w1 ⟨rfl, m, rfl⟩
        go_wp2_with fail
        refine (HX.out _).mono ?_
        rintro e w1 ⟨rfl, q, rfl⟩
        go_wp2
        go_ret2
        exact ⟨_, [], false, rfl, ownP_empty _ _, (fun h => by cases h), belDA _ _ _⟩
      | true =>
        have HX := Lib.hid (fun W => text_isS b true h3 (by omega) W)
        clear h3
        go_enter Try.func49, Try.ntmps49
        go_wp2_with fail
        refine HTO.out.mono ?_
        rintro e w1 ⟨rfl, n, rfl⟩
        go_wp2_with fail
        refine (HP.out _).mono ?_
        rintro e w1 ⟨rfl, m, rfl⟩
        go_wp2_with fail
        refine (HX.out _).mono ?_
        rintro e w1 ⟨rfl, q, hW⟩
        have HB1 := Lib.hid (show Below w.heap.size w w1 by rw [hW]; exact belN (belN (Below.refl _ _) _) _)
        clear hW
        go_wp2_with fail
        refine (l11Put_any w1 _ l a b (lp_next HL.out HB1.out) hn).mono ?_
        rintro e w2 ⟨v2, L, rfl, ho, hf, hlen, hlen1, hb2⟩
        have HO := Lib.hid ho
        have HF := Lib.hid hf
        have HB2 := Lib.hid (bel2 HB1.out hb2)
        have hs1 := HB1.out.size
        clear ho hf hb2
        go_wp2_with fail
        refine (treeOkS_any w2 _ L (lp_of_own HO.out) (by omega) (tameF_big (tameF_from HF.out HT.out ⟨ha, hb⟩))).mono ?_
        rintro e w3 ⟨rfl, n3, rfl⟩
        cases h4 : treeB L with
        | false =>
          clear h4
          have HLp : Hid (Lp w2 w2.heap.size (.slice (some ⟨g0, 0, none⟩) l.length c) (fvals l)) := Lib.hid (lp_next HL.out HB2.out)
          have HNEW := Lib.hid (show News ((w2.drewN n3).alloc (.cells #[] 38)) ⟨g0, 0, none⟩ ((fvals l).take l.length) from
            news_take (w := (w2.drewN n3).alloc (.cells #[] 38)) (n := l.length) (c := c) (lp_next (w := w2.drewN n3) HLp.out ((Below.refl _ _).alloc (Nat.le_refl _) _)) l.length)
          have HG0 : Hid (Grew 38 (w2.drewN n3) ((w2.drewN n3).alloc (.cells #[] 38)) (.slice (some ⟨w2.heap.size, 0, none⟩) 0 0) []) := Lib.hid ⟨ownP_empty _ (w2.drewN n3), (Below.refl _ _).alloc (Nat.le_refl _) _⟩
          go_wp2_with (at_builtin; go_must (refine wpList_append_p (w2.drewN n3) _ rfl _ _ 29 38 rfl i0 _ 32 Try.underlying29 hi hz0 hz1 hz2 rfl (by omega) _ [] rfl HG0.out ⟨g0, 0, none⟩ l.length c (fvals l) rfl (fvals_length l) (fun j u hj => (HNEW.out j u (by rw [List.take_of_length_le (by rw [fvals_length]; exact Nat.le_refl _)]; exact hj)).2) (fvals_ones l) (by rw [fvals_length]; simp; omega) ?_); intro v4 w4 hg4 _; have HG4 := Lib.hid hg4; clear hg4)
          go_ret2
          exact ⟨_, l, false, rfl, ownP_less (by simpa using HG4.out.1) (Nat.le_trans HB2.out.size (Nat.le_refl _)), (fun h => by cases h), bel2 (belN HB2.out n3) HG4.out.2⟩
        | true =>
          have HL6 := Lib.hid (show L.length ≤ 6 by
            simp only [treeB, Bool.and_eq_true, decide_eq_true_eq] at h4
            exact h4.2)
          clear h4
          go_wp2
          go_ret2
          exact ⟨_, L, true, rfl, ownP_less HO.out hs1, (fun _ => ⟨HF.out, HL6.out, hlen1⟩), belN HB2.out n3⟩
end
end Go.Proofs.Ytndiofhinlogmaa
