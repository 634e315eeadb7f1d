/- Slices of entries that are laid end to end, in a statement that draws its order. -/
import Derived.Test.YtfoocgfedcfkhaaLidxD
import Derived.Deep.RegionHeld3
import Derived.Deep.AppendLies
namespace Go.Proofs.Ytfoocgfedcfkhaa
open Go.RowKit
/-- the cells of the entries -/
def flat (l : List (Int × Int)) : List Value := l.flatMap fun s => [.int .i64 s.1, .int .i64 s.2]
theorem flat_cons (s : Int × Int) (l : List (Int × Int)) : flat (s :: l) = .int .i64 s.1 :: .int .i64 s.2 :: flat l := rfl
theorem flat_append (l m : List (Int × Int)) : flat (l ++ m) = flat l ++ flat m := by simp [flat]
theorem flat_length : ∀ l : List (Int × Int), (flat l).length = l.length * 2
  | [] => rfl
  | s :: l => by rw [flat_cons]; simp only [List.length_cons]; rw [flat_length l]; omega
theorem flat_get : ∀ {l : List (Int × Int)} {i : Nat} {s : Int × Int}, l[i]? = some s → (flat l)[i * 2]? = some (.int .i64 s.1) ∧ (flat l)[i * 2 + 1]? = some (.int .i64 s.2)
  | t :: l, 0, s, h => by
    injection h with h
    subst h
    exact ⟨rfl, rfl⟩
  | t :: l, i + 1, s, h => by
    have h2 := flat_get (l := l) (i := i) (s := s) (by simpa using h)
    rw [flat_cons, show (i + 1) * 2 = i * 2 + 1 + 1 by omega]
    exact h2
theorem flat_sp2 (l : List (Int × Int)) : Sp2 l l.length (flat l) := fun _ _ _ h => flat_get h
theorem sp2_flat {l : List (Int × Int)} {ys : List Value} (h : Sp2 l l.length ys) (hl : ys.length = l.length * 2) : ys = flat l := by
  refine List.ext_getElem (by rw [hl, flat_length]) fun j h1 h2 => ?_
  have hj : j / 2 < l.length := by omega
  have hs : l[j / 2]? = some l[j / 2] := List.getElem?_eq_getElem hj
  obtain ⟨a1, a2⟩ := h (j / 2) _ hj hs
  obtain ⟨b1, b2⟩ := flat_get hs
  apply Option.some.inj
  rw [← List.getElem?_eq_getElem h1, ← List.getElem?_eq_getElem h2]
  rcases Nat.mod_two_eq_zero_or_one j with e | e
  · rw [show j = j / 2 * 2 by omega, a1, b1]
  · rw [show j = j / 2 * 2 + 1 by omega, a2, b2]
theorem flat_one : ∀ (l : List (Int × Int)), ∀ u ∈ flat l, u.oneCell' = true
  | [], u, h => by simp [flat] at h
  | s :: l, u, h => by
    rw [flat_cons] at h
    rcases List.mem_cons.1 h with rfl | h
    · rfl
    · rcases List.mem_cons.1 h with rfl | h
      · rfl
      · exact flat_one l u h
theorem add_at (g off n : Nat) : (⟨g, off, none⟩ : Addr).add n = ⟨g, off + n, none⟩ := by
  unfold Addr.add
  split
  · subst_vars; rfl
  · rfl
/-- from AD on lie the cells of l -/
def News (w : World) (AD : Addr) (l : List (Int × Int)) : Prop := ∀ j u, (flat l)[j]? = some u → (AD.add j).block < w.heap.size ∧ w.cell? (AD.add j) = some u
theorem news_nil (w : World) (AD : Addr) : News w AD [] := fun j u h => by simp [flat] at h
theorem lsp_drop {w : World} {n c k : Nat} {ad AD : Addr} {l : List (Int × Int)} (h : Lsp w w.heap.size (.slice (some ad) n c) l) (hAD : k < l.length → AD = ad.add (k * 2)) : News w AD (l.drop k) := by
  intro j u hj
  obtain ⟨A', c', hv, hc, hx⟩ := h
  have hj2 : j < (flat (l.drop k)).length := (List.getElem?_eq_some_iff.1 hj).1
  rw [flat_length, List.length_drop] at hj2
  obtain ⟨g, off, hA, hg, hcell⟩ := hx (by omega)
  cases hv
  cases hA
  have hA2 := hAD (by omega)
  have hs : l[k + j / 2]? = some l[k + j / 2] := List.getElem?_eq_getElem (by omega)
  obtain ⟨h1, h2⟩ := hcell _ _ hs
  obtain ⟨b1, b2⟩ := flat_get (l := l.drop k) (i := j / 2) (s := l[k + j / 2]) (by rw [List.getElem?_drop]; exact hs)
  have hadd : AD.add j = ⟨g, off + k * 2 + j, none⟩ := by
    rw [hA2, add_at, add_at]
  rw [hadd]
  refine ⟨hg, ?_⟩
  rcases Nat.mod_two_eq_zero_or_one j with e | e
  · have : j = j / 2 * 2 := by omega
    rw [this] at hj
    rw [b1] at hj
    injection hj with hj
    rw [show off + k * 2 + j = off + (k + j / 2) * 2 by omega, h1, hj]
  · have : j = j / 2 * 2 + 1 := by omega
    rw [this] at hj
    rw [b2] at hj
    injection hj with hj
    rw [show off + k * 2 + j = off + (k + j / 2) * 2 + 1 by omega, h2, hj]
theorem news_drop {w : World} {n c k : Nat} {ad AD : Addr} {l : List (Int × Int)} (h : Lsp w w.heap.size (.slice (some ad) n c) l) (hAD : (if c = k then some ad else some (ad.add (k * 2))) = some AD) : News w AD (l.drop k) := by
  refine lsp_drop h fun hk => ?_
  obtain ⟨A', c', hv, hc, hx⟩ := h
  cases hv
  rw [if_neg (by omega)] at hAD
  injection hAD with hAD
  exact hAD.symm
theorem news_take {w : World} {n c : Nat} {ad : Addr} {l : List (Int × Int)} (h : Lsp w w.heap.size (.slice (some ad) n c) l) (k : Nat) : News w ad (l.take k) := by
  have h0 : News w ad (l.drop 0) := lsp_drop h fun h0 => by
    obtain ⟨A', c', hv, hc, hx⟩ := h
    obtain ⟨g, off, hA, hg, hcell⟩ := hx h0
    cases hv
    cases hA
    rfl
  intro j u hj
  refine h0 j u ?_
  rw [List.drop_zero]
  have e : flat l = flat (l.take k) ++ flat (l.drop k) := by rw [← flat_append, List.take_append_drop]
  rw [e, List.getElem?_append_left (List.getElem?_eq_some_iff.1 hj).1]
  exact hj
/-- since w a slice of its own has been laid, of the entries l -/
def Grew (w W : World) (v : Value) (l : List (Int × Int)) : Prop := OwnSp w.heap.size W v l ∧ Below w.heap.size w W
theorem grew_start (w : World) : Grew w (w.alloc (.cells #[] 32)).drew (.slice (some ⟨w.heap.size, 0, none⟩) 0 0) [] := by
  refine ⟨ownSp_empty w, ?_⟩
  have h : Below w.heap.size w (w.alloc (.cells #[] 32)) := (Below.refl _ _).alloc (Nat.le_refl _) _
  exact ⟨h.os, h.tape, h.output, h.size, h.block⟩
theorem step_append_sp (w W : World) {ops : Array Oper} {o : Oper} {a : Act} {K : Act → World → Prop} {Q : Exit → Act → World → Prop} {E : Prop} (hgd : o.guard = none) (s x : Operand)
    (ho : o.op = .call { callee := .builtin .append, args := #[s, x], argTypes := #[25, 25] })
    (v : Value) (l1 : List (Int × Int)) (hs : a.eval s = v) (hgr : Grew w W v l1) (ad : Addr) (m c : Nat) (l2 : List (Int × Int)) (hx : a.eval x = .slice (some ad) m c) (hm : l2.length = m)
    (hnews : News w ad l2) (hl : l1.length + m ≤ 100) (h : ∀ v' w', Grew w w' v' (l1 ++ l2) → K (a.put o.dst v') w') :
    if Region.wanted o (yielded ops a.tmps) = true then Oper.wp Try.prog o a W K Q else E := by
  have hw : Region.wanted o (yielded ops a.tmps) = true := by simp [Region.wanted, hgd]
  rw [if_pos hw]
  obtain ⟨i0, hi, hz0, hz1, hz2⟩ := info_parts info_spot
  obtain ⟨⟨ys, hown, hsp⟩, hb⟩ := hgr
  have hys := sp2_flat hsp (show ys.length = l1.length * 2 from hown.1)
  subst hys
  subst hm
  obtain ⟨v', w', hr, h2, h3, h4, h5⟩ := run_append_own_at (P := Try.prog) W w.heap.size 25 o.type 32 i0 (.agg #[.int .i64 0, .int .i64 0]) 2 16 Try.underlying25 hi hz0 hz1 hz2 rfl (by decide)
    v l1.length (flat l1) hown ad l2.length c (flat l2) (flat_length l2) (fun j u hu => by obtain ⟨q1, q2⟩ := hnews j u hu; rw [hb.cell (p := ad.add j) q1]; exact q2) (flat_one l2) (by unfold maxLen; omega) (by omega) hb.size
  unfold Oper.wp execOp
  simp only [ho, resolve, invoke, builtin, Sem.run_bind, Sem.run_pure, Result.andThen_ok, List.map_toArray, List.map_cons, List.map_nil, hs, hx, hr]
  refine h v' w' ⟨⟨flat (l1 ++ l2), by rw [flat_append, List.length_append]; exact h2, flat_sp2 _⟩, ?_⟩
  exact bel_gb hb h3 hb.size fun g hg => (hown.lt g hg).1
theorem lsp_lit (w : World) {a b : Int} : Lsp (w.alloc (.cells #[.int .i64 a, .int .i64 b] 32)) (w.alloc (.cells #[.int .i64 a, .int .i64 b] 32)).heap.size (.slice (some ⟨w.heap.size, 0, none⟩) 1 1) [(a, b)] := by
  refine ⟨_, 1, rfl, Nat.le_refl _, fun _ => ⟨w.heap.size, 0, rfl, by simp, fun j s hj => ?_⟩⟩
  match j, hj with
  | 0, hj =>
    simp only [List.getElem?_cons_zero, Option.some.injEq] at hj
    subst hj
    exact ⟨lit_at w _ _ 0 _ rfl, lit_at w _ _ 1 _ rfl⟩
  | j + 1, hj => simp at hj
theorem idx_out {l : List (Int × Int)} (h : idxB l = true) (k : Nat) : idxB (l.take k ++ l.drop (k + 1)) = true := by
  have hs : (l.take k ++ l.drop (k + 1)).Sublist l := by
    rw [← List.eraseIdx_eq_take_drop_succ]
    exact List.eraseIdx_sublist ..
  exact idx_of (fun t ht => idx_all h t (hs.subset ht)) (ris_pair.2 ((ris_pair.1 (idx_ris h)).sublist hs))
theorem idx_two {l : List (Int × Int)} {k : Nat} (hk : k < l.length) : idxB (l.take (k + 1) ++ l.drop k) = false := by
  cases hb : idxB (l.take (k + 1) ++ l.drop k) with
  | false => rfl
  | true =>
    exfalso
    have hs : l[k]? = some l[k] := List.getElem?_eq_getElem hk
    have h1 : (l.take (k + 1) ++ l.drop k)[k]? = some l[k] := by
      rw [List.getElem?_append_left (by rw [List.length_take]; omega), List.getElem?_take_of_lt (by omega)]
      exact hs
    have h2 : (l.take (k + 1) ++ l.drop k)[k + 1]? = some l[k] := by
      rw [List.getElem?_append_right (by rw [List.length_take]; omega), List.length_take, show k + 1 - min (k + 1) l.length = 0 by omega, List.getElem?_drop]
      exact hs
    have := idx_next hb h1 h2
    omega
end Go.Proofs.Ytfoocgfedcfkhaa
