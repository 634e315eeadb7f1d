/- The program's iterator over the pieces of a text, and the two functions that collect the ends and the pieces out of it. -/
import Derived.RangeFuncBox
import Derived.RangeFuncNested
import Derived.RangeFuncLeaves
import Derived.Shelf.Abstract
import Derived.Shelf.RegionOpen
import Derived.OwnWalkIn
import Derived.TacticsInMore
import Derived.LoopNIn
import Derived.LoopIn
import Derived.Test.YthefpbnnmfjggaaEnds
import Derived.Test.YthefpbnnmfjggaaDraw
namespace Go.Proofs.Ythefpbnnmfjggaa
open Go.RowKit Go.Shelf
attribute [local go_sem] Oper.semAt_some

/-- a round keeps the box of the text -/
def Keep (b : Nat) (W W' : World) : Prop := W'.heap[b]? = W.heap[b]?
abbrev encSpan (l : List UInt8) (p : SpanOf l) : Array Value := #[.int .i64 (p.1.1 : Int), .int .i64 (p.1.2 : Int)]

set_option maxRecDepth 100000 in
set_option maxHeartbeats 1000000 in
theorem cuts_stops (n Bn : Nat) (hn : 3 ≤ n) (s : ByteArray) (w : World) (hs : s.size ≤ 40) (hl : lets s.data.toList = true) (hBn : Bn < w.heap.size) (hc : Boxed w Bn 9 (.string s)) :
    SeqStopsK Fence.wide n Try.prog 38 #[.pointer (some ⟨Bn, 0, none⟩)] (encSpan s.data.toList) (Keep Bn) (fun ys => ys = spansP s.data.toList) (fun pre => pre <+: spansP s.data.toList) (spansP s.data.toList).length w := fun l J Jx W hW hJ _ hY h0 => by
  have HS := Lib.hid (size_int s)
  have HL := Lib.hid hl
  have HJ := Lib.hid hJ
  have HY := Lib.hid hY
  have hW1 : Boxed W Bn 9 (.string s) := (hW.block Bn hBn).trans hc
  clear hl hJ hY hc
  refine callsIn_of_wp Try.func38 rfl trivial ?_ rfl
  simp only [Try.ntmps38, List.size_toArray, List.length_cons, List.length_nil, Nat.reduceAdd, Nat.reduceSub, Array.replicate_succ, Array.replicate_zero, List.push_toArray, List.append_toArray, List.nil_append, List.cons_append]
  gi_wp2
  gi_loopw [3] (fun t wr => ∃ (pre rest : List (SpanOf s.data.toList)) (fr : Nat), t = .int .i64 (fr : Int) ∧ fr ≤ s.size ∧ spansP s.data.toList = pre ++ rest ∧ rest.map (·.1) = spansAt fr (endsAt s.data.toList fr) ∧ J pre wr ∧ Boxed wr Bn 9 (.string s)) (fun t _ => s.size - (intOf t).toNat)
  case atStart => exact ⟨[], _, 0, rfl, Nat.zero_le _, rfl, spansP_map _, h0, hW1⟩
  case round =>
    obtain ⟨pre, rest, fr, rfl, hfr, hx, hre, hJs, hbx⟩ := hrel
    have hcell := hbx.cell
    by_cases hlt : fr < s.size
    · have hll : fr < s.data.toList.length := by rw [HS.out]; exact hlt
      have hgt := cutE_gt hll
      have hle := cutE_le hll
      rw [HS.out] at hle
      rw [endsAt_cons hll, spansAt] at hre
      cases rest with
      | nil => simp at hre
      | cons x rest =>
        obtain ⟨⟨xa, xb⟩, hxp⟩ := x
        simp only [List.map_cons, List.cons.injEq, Prod.mk.injEq] at hre
        obtain ⟨⟨hxa, hxb⟩, hre⟩ := hre
        have HX := Lib.hid hx
        have HRE := Lib.hid hre
        have HBX := Lib.hid hbx
        have HJS := Lib.hid hJs
        have HA := Lib.hid hxa
        have HBE := Lib.hid hxb
        clear hx hre hll hbx hJs hxa hxb
        gi_wp2_with fail
        refine ⟨trivial, fun _ => by omega, ?_⟩
        refine (callsIn_wide.2 (cutAt_at s fr _ hs hlt HL.out)).mono ?_
        rintro e w' ⟨rfl, nd, rfl⟩
        generalize cutE s.data.toList fr = E at *
        obtain ⟨fn, tmps, assign, body, hy, hR⟩ := HY.out pre ⟨(xa, xb), hxp⟩ (wr.drewN nd) (HJ.out pre wr _ none HJS.out (grown_drewN (grown_refl wr none) nd) (fun r e => by cases e)) (by rw [HX.out, List.length_append]; simp)
        have HR := Lib.hid hR
        clear hR
        dsimp only [encSpan] at hy
        rw [HA.out, HBE.out] at hy
        gi_wp2_with fail
        refine ⟨fun _ => by omega, HR.out.mono ?_⟩
        rintro e W3 (⟨rfl, hJ3, hk3⟩ | ⟨rfl, hJx3⟩)
        · have hb3 : Boxed W3 Bn 9 (.string s) := Eq.trans hk3 HBX.out
          have HB3 := Lib.hid hb3
          have HJ3 := Lib.hid hJ3
          clear hk3 hb3 hJ3
          gi_wp2
          go_roundw
          case rel => exact ⟨_, rest, E, rfl, hle, by rw [HX.out, List.append_assoc]; rfl, HRE.out, HJ3.out, HB3.out⟩
          case measure => simp [intOf]; omega
        · have HX3 := Lib.hid hJx3
          clear hJx3
          gi_wp2
          refine bodyPost_ret (results_none rfl _ _ _) rfl ?_
          exact ⟨⟨_, rfl⟩, .inr ⟨_, ⟨rest, by rw [HX.out, List.append_assoc]; rfl⟩, HX3.out⟩⟩
    · have HX := Lib.hid (show spansP s.data.toList = pre by
        rw [endsAt_nil (by rw [HS.out]; exact hlt)] at hre
        simp only [spansAt, List.map_eq_nil_iff] at hre
        rw [hx, hre, List.append_nil])
      have HJS := Lib.hid hJs
      clear hx hre hJs
      gi_wp2
      go_end0
      exact ⟨⟨_, rfl⟩, .inl ⟨_, rfl, by rw [HX.out]; exact HJS.out⟩⟩

set_option maxHeartbeats 1000000 in
theorem cuts_in (n : Nat) (s : ByteArray) (w : World) : CallsIn Fence.wide n Try.prog 26 #[.string s] w fun e w' => e = .returned (.func (.func 38) #[] #[.pointer (some ⟨w.heap.size, 0, none⟩)]) ∧ w' = w.alloc (.cells #[.string s] 9) := by
  refine callsIn_of_wp Try.func26 rfl trivial ?_ rfl
  simp only [Try.ntmps26, List.size_toArray, List.length_cons, List.length_nil, Nat.reduceAdd, Nat.reduceSub, Array.replicate_succ, Array.replicate_zero, List.push_toArray, List.append_toArray, List.nil_append, List.cons_append]
  gi_wp2
  go_ret
  exact ⟨rfl, rfl⟩

/-- an append to a slice that a box holds, and the store back: what the walk owes -/
theorem boxed_appended {W w1 : World} {n₀ n₁ B : Nat} {t e : TypeId} {size : Nat} {v v' : Value} {k m : Nat} {xs ys : List Value} {tmp : Obj}
    (hv : Boxed W B t v) (hte : t ≠ e) (hrow : W.ownsRow n₁ e size v k xs) (h01 : n₀ ≤ n₁) (hn₁ : n₁ ≤ W.heap.size) (hB : n₀ ≤ B)
    (hown' : w1.ownsRow n₁ e size v' m ys) (hgrow : (W.alloc tmp).grownBy w1 v.ownBlock) :
    Boxed w1 B t v ∧ Boxed (w1.setCell ⟨B, 0, none⟩ v') B t v' ∧ (w1.setCell ⟨B, 0, none⟩ v').ownsRow n₁ e size v' m ys ∧ KeepsOthers W (w1.setCell ⟨B, 0, none⟩ v') ∧ Below n₀ W (w1.setCell ⟨B, 0, none⟩ v') ∧
      (∀ b, b < n₁ → b ≠ B → (w1.setCell ⟨B, 0, none⟩ v').heap[b]? = W.heap[b]?) := by
  have hv1 : Boxed w1 B t v := (hv.alloc tmp).kept hgrow (hv.not_row hte hrow)
  have hlow : ∀ j, v.ownBlock = some j → n₁ ≤ j := fun j hj => (hrow.lt j hj).1
  have hb1 : Below n₁ W w1 := ((Below.refl n₁ W).alloc hn₁ tmp).grown hgrow (by simp; omega) hlow
  refine ⟨hv1, hv1.set v', hown'.kept (grownBy_setCell' w1 B v') (.inr (hv1.not_row hte hown').symm), ?_, ?_, ?_⟩
  · refine ((KeepsOthers.alloc W tmp).trans (KeepsOthers.of_grownBy hgrow fun j o ej hj => ?_)).trans (KeepsOthers.setCell _ _ _)
    rcases (hrow.alloc tmp).2 with ⟨rfl, _⟩ | ⟨g, cap, cur, rfl, _, hgb, _⟩
    · simp [Value.ownBlock] at ej
    · obtain rfl : g = j := by simpa [Value.ownBlock] using ej
      rw [hgb] at hj; cases hj; rfl
  · exact (hb1.mono h01).setCell (p := ⟨B, 0, none⟩) hB v'
  · intro b hb hne
    exact (Below.heap_setCell w1 ⟨B, 0, none⟩ v' b hne).trans (hb1.block b hb)

theorem keep_b {b : Nat} {w : World} (hb : b < w.heap.size) : ∀ (W : World) (l : Nat) (o o' : Obj), w.heap.size ≤ l → W.heap[l]? = some o → o.isCells = false → o.isWalk = false → Keep b W (W.putObj l o') :=
  fun _ l _ _ hl _ _ _ => World.putObj_heap_other (by omega)
theorem keep_t {b : Nat} {A B C : World} (h : Keep b A B) (k : Keep b B C) : Keep b A C := Eq.trans k h

theorem own_lower {w : World} {B B' : Nat} {e : TypeId} {size n : Nat} {v : Value} {xs : List Value} (h : w.ownsRow B e size v n xs) (hB : B' ≤ B) : w.ownsRow B' e size v n xs := by
  refine ⟨h.1, ?_⟩
  rcases h.2 with h0 | ⟨g, cap, cur, h1, h2, h3⟩
  · exact .inl h0
  · exact .inr ⟨g, cap, cur, h1, by omega, h3⟩
/-- a region without a defer statement is in a round what it is outside of one -/
theorem wpAnyIn_inRound {F : Fence} {n l : Nat} {P : Program} {md : Region.Mode} {ops : Array Oper} {Q : Exit → Act → World → Prop} (hnd : ∀ (i : Nat) (o : Oper), ops[i]? = some o → ∀ c, o.op ≠ Op.defer c) :
    ∀ (fuel : Nat) (listed : Array Bool) (a : Act) (w : World), wpAnyIn F n P md ops Q fuel listed a w → wpAnyIn (F.inRound l) n P md ops Q fuel listed a w
  | 0, _, _, _, h => h
  | fuel + 1, listed, a, w, h => by
    refine ⟨h.1, fun i hi => ?_⟩
    have h1 : wpOpIn F n P ops Q i (wpAnyIn (F.inRound l) n P md ops Q fuel (listed.setIfInBounds i true)) a w :=
      wpOpIn_mono (fun a w => wpAnyIn_inRound hnd fuel _ a w) (h.2 i hi)
    unfold wpOpIn at h1 ⊢
    cases ho : ops[i]? with
    | none => rw [ho] at h1; exact h1
    | some o =>
      rw [ho] at h1
      simp only at h1 ⊢
      split
      · rename_i hw
        rw [if_pos hw] at h1
        refine ⟨h1.1, ?_⟩
        have h2 := h1.2
        rw [Oper.semAt_plain F _ _ (hnd i o ho)] at h2
        rw [Oper.semAt_plain (F.inRound l) _ _ (hnd i o ho)]
        exact h2
      · rename_i hw
        rw [if_neg hw] at h1
        exact h1
/-- an append in a region, in whatever order the region's operations come -/
theorem stepIn_append_own {F : Fence} {n : Nat} {P : Program} (w : World) {ops : Array Oper} {o : Oper} {a : Act} {K : Act → World → Prop} {Q : Exit → Act → World → Prop} {E : Prop}
    (hg : o.guard = none) (s x : Operand) (t : TypeId) (hop : o.op = Op.call { callee := Callee.builtin Builtin.append, args := #[s, x], argTypes := #[t, t] })
    (base : Nat) (e : TypeId) (i : TypeInfo) (z : Value) (size bytes : Nat) (h1 : P.underlying t = some (.slice e)) (h2 : P.info? e = some i) (h3 : i.zero = some z) (h4 : i.size = size) (h5 : i.bytes = bytes) (h6 : z.cells.size = size) (h7 : 0 < size)
    (v : Value) (k : Nat) (xs : List Value) (hs : a.eval s = v) (hown : w.ownsRow base e size v k xs) (ad : Addr) (m c : Nat) (news : List Value) (hx : a.eval x = .slice (some ad) m c) (hn : news.length = m * size)
    (hc : ∀ j u, news[j]? = some u → w.cell? (ad.add j) = some u) (h1c : ∀ u ∈ news, u.oneCell' = true) (b1 : k + m ≤ maxLen) (b2 : (k + m) * bytes ≤ 140737488355328) (b3 : base ≤ w.heap.size)
    (hK : ∀ v' w', w'.ownsRow base e size v' (k + m) (xs ++ news) → w.grownBy w' v.ownBlock → K (a.put o.dst v') w') :
    if Region.wanted o (yielded ops a.tmps) = true then Oper.wpIn F n P o a w K Q else E := by
  have hw : Region.wanted o (yielded ops a.tmps) = true := by simp [Region.wanted, hg]
  rw [if_pos hw]
  obtain ⟨v', w', hrun, r1, r2, _⟩ := run_append_own (P := P) w base t o.type e i z size bytes h1 h2 h3 h4 h5 h6 h7 v k xs hown ad m c news hn hc h1c b1 b2 b3
  unfold Oper.wpIn
  refine ⟨?_, ?_⟩
  · simp [Oper.about, hop, resolve, Target.leads, Sem.run_pure]
  · rw [Oper.semAt_plain F _ _ (by rw [hop]; intro c hc'; cases hc')]
    simp [execOp, hop, resolve, invoke, builtin, hs, hx, hrun, Result.andThen]
    exact hK v' w' r1 r2

/-- what holds between two rounds -/
def PiecesI (s : ByteArray) (w : World) (pre : List (SpanOf s.data.toList)) (W : World) : Prop :=
  (∃ v, Boxed W (w.heap.size + 1) 22 v ∧ W.ownsRow (w.heap.size + 3) 9 1 v pre.length (strVals (pre.map fun p => (s.data.toList.drop p.1.1).take (p.1.2 - p.1.1)))) ∧
    Boxed W w.heap.size 9 (.string s) ∧ Below w.heap.size w W ∧ w.heap.size + 3 ≤ W.heap.size
theorem piecesI_own (s : ByteArray) (w : World) (B : Nat) (hB : w.heap.size + 3 ≤ B) : OwnFrom B (PiecesI s w) := by
  rintro pre X Y row ⟨⟨v, hv, hr⟩, ht, hb, hz⟩ hg hrow
  refine ⟨⟨v, hv.kept hg (fun e' => ?_), hr.kept hg ?_⟩, ht.kept hg (fun e' => ?_), hb.grown hg hb.size (fun k e => by have := (hrow k e).1; omega), Nat.le_trans hz hg.size⟩
  · have := (hrow _ e'.symm).1; omega
  · rcases hr.2 with ⟨rfl, _⟩ | ⟨g, cap, cur, rfl, _, hgb, _⟩
    · exact .inl rfl
    · refine .inr fun e' => ?_
      obtain ⟨_, o, ho, hc⟩ := hrow g (by simpa [Value.ownBlock] using e'.symm)
      rw [hgb] at ho; cases ho; cases hc
  · have := (hrow _ e'.symm).1; omega
set_option maxRecDepth 100000 in
set_option maxHeartbeats 2000000 in
theorem cutAll_text (s : ByteArray) (w : World) (hs : s.size ≤ 40) (hl : lets s.data.toList = true) : Calls Try.prog 15 #[.string s] w (GavePieces s.data.toList w) := by
  refine (callsIn_wide (n := 8)).1 ?_
  obtain ⟨i0, hi, hz0, hz1, hz2⟩ := info_parts info_string
  have hN : (spansP s.data.toList).length ≤ 40 := by
    rw [spansP_length]; exact endsAt_len40 (l := s.data.toList) (by rw [size_int]; exact hs) 0
  have htx : textB s.data.toList = true := by simp only [textB, Bool.and_eq_true, decide_eq_true_eq, size_int]; exact ⟨hs, hl⟩
  refine callsIn_of_wp_marks Try.func15 rfl trivial ?_ rfl
  simp only [Try.ntmps15, List.size_toArray, List.length_cons, List.length_nil, Nat.reduceAdd, Nat.reduceSub, Array.replicate_succ, Array.replicate_zero, List.push_toArray, List.append_toArray, List.nil_append, List.cons_append]
  gi_wp2_with fail
  refine ⟨trivial, (callsIn_wide.2 (textOk_any s _ (by unfold maxLen; omega))).mono ?_⟩
  rintro e w' ⟨rfl, rfl⟩
  rw [htx]
  gi_wp2_with fail
  refine ⟨trivial, (cuts_in 7 s _).mono ?_⟩
  rintro e w' ⟨rfl, rfl⟩
  gi_wp2_with fail
  have bT := Boxed.new w 9 (.string s)
  have bO := Boxed.new (w.alloc (.cells #[.string s] 9)) 22 (.slice none 0 0)
  have bN := Boxed.new ((w.alloc (.cells #[.string s] 9)).alloc (.cells #[.slice none 0 0] 22)) 9 (.string s)
  simp only [World.size_alloc] at bO bN
  have hB0 : Below w.heap.size w (((w.alloc (.cells #[.string s] 9)).alloc (.cells #[.slice none 0 0] 22)).alloc (.cells #[.string s] 9)) := (((Below.refl _ w).alloc (Nat.le_refl _) _).alloc (by simp) _).alloc (by simp; omega) _
  refine wpIn_rangeFunc_ownG rfl (by omega) (gf := 38) (lb := #[.pointer (some ⟨w.heap.size + 1 + 1, 0, none⟩)]) rfl trivial (enters_of Try.func38 (by kernel_rfl) rfl)
    (cuts_stops (8 - 1) (w.heap.size + 1 + 1) (by omega) s (((w.alloc (.cells #[.string s] 9)).alloc (.cells #[.slice none 0 0] 22)).alloc (.cells #[.string s] 9)) hs hl (by simp) bN) keep_t (keep_b (by simp)) (Below.refl _ _) (fun _ => rfl)
    (PiecesI s w) (fun _ _ _ => False) (piecesI_own s w _ (by simp)) (fun _ _ _ _ _ hs _ _ => hs)
    ⟨⟨_, bO.alloc _, World.ownsRow_nil _ _ _ _⟩, (bT.alloc _).alloc _, hB0, by simp⟩
    (fun x => { tmps := #[.string s, .pointer (some ⟨w.heap.size, 0, none⟩), .slice none 0 0, .pointer (some ⟨w.heap.size + 1, 0, none⟩), .int .i64 (x.1.1 : Int), .int .i64 (x.1.2 : Int), .string s, .bool true, .bool false, .string s, .func (.func 38) #[] #[.pointer (some ⟨w.heap.size + 1 + 1, 0, none⟩)], .int .i64 (x.1.1 : Int), .int .i64 (x.1.2 : Int), undef, undef, undef, undef, undef, undef, undef, undef], defers := [] }) ?assign ?body ?done ?stop
  case assign =>
    intro l x W K hK
    gi_wp2
    exact hK
  case body =>
    rintro l pre x W ⟨⟨v, hv, hrow⟩, ht, hB, hz⟩ hlt
    have hc := hv.cell
    have hct := ht.cell
    obtain ⟨⟨xa, xb⟩, hx1, hx2⟩ := x
    rw [size_int] at hx2
    simp only at hx1 hx2 ⊢
    have hx3 : xa ≤ xb := Nat.le_of_lt hx1
    have HX := Lib.hid (extract_str s xa xb)
    have hrd : W.drew.ownsRow (w.heap.size + 3) 9 1 v pre.length (strVals (pre.map fun p => (s.data.toList.drop p.1.1).take (p.1.2 - p.1.1))) := hrow
    have HRD := Lib.hid hrd
    have hvd : Boxed W.drew (w.heap.size + 1) 22 v := hv
    have HVD := Lib.hid hvd
    have hca := (hv.alloc (.cells #[.string (s.extract xa xb)] 9)).cell
    have HV := Lib.hid hv
    have HT := Lib.hid ht
    have HBW := Lib.hid hB
    clear hrd hvd hv hrow ht hB
    gi_wp2_with fail
    refine wpIn_region_any (by kernel_rfl) ?_
    change wpAnyIn _ _ _ _ _ _ _ _ _ (World.drew _)
    refine wpAnyIn_inRound ?nodefer _ _ _ _ ?_
    case nodefer =>
      intro i o ho c
      have hm := Array.mem_of_getElem? ho
      simp only [List.mem_toArray, List.mem_cons, List.not_mem_nil, or_false] at hm
      rcases hm with rfl | rfl | rfl | rfl | rfl | rfl | rfl | rfl <;> exact Op.noConfusion
    refine wpAnyIn_take (i := 2) (v := ?_) rfl rfl (by kernel_rfl) (by kernel_rfl) (by kernel_rfl) (fun _ _ _ h => h) ⟨Or.inl ⟨by rfl, ?_⟩, fun _ => rfl⟩ ?_
    rotate_left
    · intro w
      go_simp
      try with_reducible rfl
    refine wpAnyIn_take (i := 3) (v := ?_) rfl rfl (by kernel_rfl) (by kernel_rfl) (by kernel_rfl) (fun _ _ _ h => h) ⟨Or.inl ⟨by rfl, ?_⟩, fun _ => rfl⟩ ?_
    rotate_left
    · intro w
      go_simp
      try with_reducible rfl
    refine wpAnyIn_ready (rs := [0, 1]) (by kernel_rfl) (by simp) ?_
    refine AllReadyIn.cons rfl (fun K hK => ?_) (AllReadyIn.cons rfl (fun K hK => ?_) AllReadyIn.nil)
    · go_simp
      refine hK _ _ ?_
      clear hK K
      refine wpAnyIn_ready (rs := [1]) (by kernel_rfl) (by simp) ?_
      refine AllReadyIn.cons rfl (fun K hK => ?_) AllReadyIn.nil
      go_simp
      refine hK _ _ ?_
      clear hK K
      refine wpAnyIn_take (i := 4) (v := ?_) rfl rfl (by kernel_rfl) (by kernel_rfl) (by kernel_rfl) (fun _ _ _ h => h) ⟨Or.inl ⟨by rfl, ?_⟩, fun _ => rfl⟩ ?_
      rotate_left
      · intro w
        go_simp
        try with_reducible rfl
      refine wpAnyIn_ready (rs := [5]) (by kernel_rfl) (by simp) ?_
      refine AllReadyIn.cons rfl (fun K hK => ?_) AllReadyIn.nil
      go_simp
      refine hK _ _ ?_
      clear hK K
      refine wpAnyIn_ready (rs := [6]) (by kernel_rfl) (by simp) ?_
      refine AllReadyIn.cons rfl (fun K hK => ?_) AllReadyIn.nil
      refine stepIn_append_own _ rfl (.tmp 13) (.tmp 18) 22 rfl (w.heap.size + 3) 9 i0 (.string ByteArray.empty) 1 16 Try.underlying22 hi hz0 hz1 hz2 rfl (by decide) v pre.length _ rfl (own_alloc HRD.out _) ⟨W.heap.size, 0, none⟩ 1 1 [.string (s.extract xa xb)] rfl rfl (cell_one_new W.drew _ _) (by simp [Value.oneCell']) (by unfold maxLen; omega) (by omega) (by simp; omega) ?_
      intro v' w1 hown' hgrow
      obtain ⟨g', cap', rfl⟩ := ownsRow_succ hown'
      obtain ⟨hv1, hv2, hr2, hk2, hb2, hlow⟩ := boxed_appended HVD.out (by decide) HRD.out (Nat.le_add_right w.heap.size 3) hz (Nat.le_add_right w.heap.size 1) hown' hgrow
      have hc1 := hv1.cell
      have hf1 := hv1.frozen
      refine hK _ _ ?_
      clear hK K hown' hgrow
      refine wpAnyIn_ready (rs := [7]) (by kernel_rfl) (by simp) ?_
      refine AllReadyIn.cons rfl (fun K hK => ?_) AllReadyIn.nil
      go_simp
      refine hK _ _ ?_
      clear hK K
      refine wpAnyIn_done (by kernel_rfl) ?_ _
      exact ⟨((KeepsOthers.drew W).trans hk2).from _, hlow _ (by omega) (by omega), ⟨⟨_, hv2, by simpa [strVals_snoc, HX.out] using hr2⟩, Eq.trans (hlow _ (by omega) (by omega)) HT.out, (HBW.out.drew).trans hb2, Nat.le_trans hz hb2.size⟩⟩
    · go_simp
      refine hK _ _ ?_
      clear hK K
      refine wpAnyIn_take (i := 4) (v := ?_) rfl rfl (by kernel_rfl) (by kernel_rfl) (by kernel_rfl) (fun _ _ _ h => h) ⟨Or.inl ⟨by rfl, ?_⟩, fun _ => rfl⟩ ?_
      rotate_left
      · intro w
        go_simp
        try with_reducible rfl
      refine wpAnyIn_ready (rs := [0, 5]) (by kernel_rfl) (by simp) ?_
      refine AllReadyIn.cons rfl (fun K hK => ?_) (AllReadyIn.cons rfl (fun K hK => ?_) AllReadyIn.nil)
      · go_simp
        refine hK _ _ ?_
        clear hK K
        refine wpAnyIn_ready (rs := [5]) (by kernel_rfl) (by simp) ?_
        refine AllReadyIn.cons rfl (fun K hK => ?_) AllReadyIn.nil
        go_simp
        refine hK _ _ ?_
        clear hK K
        refine wpAnyIn_ready (rs := [6]) (by kernel_rfl) (by simp) ?_
        refine AllReadyIn.cons rfl (fun K hK => ?_) AllReadyIn.nil
        refine stepIn_append_own _ rfl (.tmp 13) (.tmp 18) 22 rfl (w.heap.size + 3) 9 i0 (.string ByteArray.empty) 1 16 Try.underlying22 hi hz0 hz1 hz2 rfl (by decide) v pre.length _ rfl (own_alloc HRD.out _) ⟨W.heap.size, 0, none⟩ 1 1 [.string (s.extract xa xb)] rfl rfl (cell_one_new W.drew _ _) (by simp [Value.oneCell']) (by unfold maxLen; omega) (by omega) (by simp; omega) ?_
        intro v' w1 hown' hgrow
        obtain ⟨g', cap', rfl⟩ := ownsRow_succ hown'
        obtain ⟨hv1, hv2, hr2, hk2, hb2, hlow⟩ := boxed_appended HVD.out (by decide) HRD.out (Nat.le_add_right w.heap.size 3) hz (Nat.le_add_right w.heap.size 1) hown' hgrow
        have hc1 := hv1.cell
        have hf1 := hv1.frozen
        refine hK _ _ ?_
        clear hK K hown' hgrow
        refine wpAnyIn_ready (rs := [7]) (by kernel_rfl) (by simp) ?_
        refine AllReadyIn.cons rfl (fun K hK => ?_) AllReadyIn.nil
        go_simp
        refine hK _ _ ?_
        clear hK K
        refine wpAnyIn_done (by kernel_rfl) ?_ _
        exact ⟨((KeepsOthers.drew W).trans hk2).from _, hlow _ (by omega) (by omega), ⟨⟨_, hv2, by simpa [strVals_snoc, HX.out] using hr2⟩, Eq.trans (hlow _ (by omega) (by omega)) HT.out, (HBW.out.drew).trans hb2, Nat.le_trans hz hb2.size⟩⟩
      · go_simp
        refine hK _ _ ?_
        clear hK K
        refine wpAnyIn_ready (rs := [0]) (by kernel_rfl) (by simp) ?_
        refine AllReadyIn.cons rfl (fun K hK => ?_) AllReadyIn.nil
        go_simp
        refine hK _ _ ?_
        clear hK K
        refine wpAnyIn_ready (rs := [6]) (by kernel_rfl) (by simp) ?_
        refine AllReadyIn.cons rfl (fun K hK => ?_) AllReadyIn.nil
        refine stepIn_append_own _ rfl (.tmp 13) (.tmp 18) 22 rfl (w.heap.size + 3) 9 i0 (.string ByteArray.empty) 1 16 Try.underlying22 hi hz0 hz1 hz2 rfl (by decide) v pre.length _ rfl (own_alloc HRD.out _) ⟨W.heap.size, 0, none⟩ 1 1 [.string (s.extract xa xb)] rfl rfl (cell_one_new W.drew _ _) (by simp [Value.oneCell']) (by unfold maxLen; omega) (by omega) (by simp; omega) ?_
        intro v' w1 hown' hgrow
        obtain ⟨g', cap', rfl⟩ := ownsRow_succ hown'
        obtain ⟨hv1, hv2, hr2, hk2, hb2, hlow⟩ := boxed_appended HVD.out (by decide) HRD.out (Nat.le_add_right w.heap.size 3) hz (Nat.le_add_right w.heap.size 1) hown' hgrow
        have hc1 := hv1.cell
        have hf1 := hv1.frozen
        refine hK _ _ ?_
        clear hK K hown' hgrow
        refine wpAnyIn_ready (rs := [7]) (by kernel_rfl) (by simp) ?_
        refine AllReadyIn.cons rfl (fun K hK => ?_) AllReadyIn.nil
        go_simp
        refine hK _ _ ?_
        clear hK K
        refine wpAnyIn_done (by kernel_rfl) ?_ _
        exact ⟨((KeepsOthers.drew W).trans hk2).from _, hlow _ (by omega) (by omega), ⟨⟨_, hv2, by simpa [strVals_snoc, HX.out] using hr2⟩, Eq.trans (hlow _ (by omega) (by omega)) HT.out, (HBW.out.drew).trans hb2, Nat.le_trans hz hb2.size⟩⟩
  case done =>
    rintro D ys W hD rfl ⟨⟨v, hv, hrow⟩, ht, hB, hz⟩ hK
    have hc := hv.cell
    have HR := Lib.hid hrow
    clear hrow
    gi_wp2
    refine ⟨by simp, .inl ⟨_, _, rfl, run_takeDeferred hK, ?_⟩⟩
    refine ⟨_, results_tmp rfl _ _ _, v, rfl, ?_, hB.trans (belowK_b (w := w) (Nat.le_refl _) W D _ _ (by simp at hD; omega) hK rfl rfl)⟩
    have h1 := ownsRow_putObj HR.out (.deferred none) hK rfl
    rw [spansP_pieces, spansP_length] at h1
    unfold OwnStrs
    rw [pieces_length]
    exact own_lower h1 (by omega)
  case stop =>
    rintro D c pre W _ _ h _
    exact h.elim
end Go.Proofs.Ythefpbnnmfjggaa
