/- What is put into the program's folders is found there: both functions that take a text out of a tree answer alike. -/
import Derived.Test.YtndiofhinlogmaaFolders
import Derived.Test.YtndiofhinlogmaaTreeOkS
namespace Go.Proofs.Ytndiofhinlogmaa
open Go.RowKit Go.Maps
theorem folderI_le (l : List UInt8) : (folderI l).length ≤ l.length := by
  unfold folderI Lib.cut
  split
  · split
    · show (l.take _).length ≤ l.length
      rw [List.length_take]
      omega
    · rename_i h
      exact absurd rfl h
  · exact Nat.zero_le _
theorem zeroM (w : World) : (zeroValue 67).run Try.prog w = .ok (.map none) w := by kernel_rfl
theorem zeroS (w : World) : (zeroValue 9).run Try.prog w = .ok (.string ByteArray.empty) w := by kernel_rfl
theorem gb_drewN (w : World) (n : Nat) (row : Option Nat) : w.grownBy (w.drewN n) row := ⟨rfl, rfl, rfl, Nat.le_refl _, fun _ _ _ => rfl⟩
theorem gb_alloc (w : World) (o : Obj) (row : Option Nat) : w.grownBy (w.alloc o) row := World.grownBy_alloc w o row
theorem outer_kept {w w' : World} {b0 n B : Nat} {l : List Fil} {D : DU} (h : Outer w b0 n l B D) (hg : w.grownBy w' (some b0)) : Outer w' b0 n l B D := by
  refine ⟨fun f => ?_, h.2⟩
  rcases h.1 f with h3 | ⟨b, E, a1, a2, a3, a4, a5⟩
  · exact .inl h3
  · exact .inr ⟨b, E, a1, a2, a3, a4.kept hg (fun e => a3 (by injection e)), a5⟩
theorem outer_mono {w : World} {b0 n n' B : Nat} {l : List Fil} {D : DU} (h : Outer w b0 n l B D) (hn : n ≤ n') : Outer w b0 n' l B D := by
  refine ⟨fun f => ?_, h.2⟩
  rcases h.1 f with h3 | ⟨b, E, a1, a2, a3, a4, a5⟩
  · exact .inl h3
  · exact .inr ⟨b, E, a1, a2, a3, a4.mono hn, a5⟩
section
set_option maxHeartbeats 1600000
theorem folderOf_any (s : ByteArray) (w : World) (hs : s.size ≤ 1048600) (hm : Mx w) :
    Calls Try.prog 48 #[.string s] w fun e w' => ∃ r : ByteArray, e = .returned (.string r) ∧ r.data.toList = folderI s.data.toList ∧ ∃ n, w' = w.drewN n := by
  obtain ⟨m, hm⟩ := hm
  obtain ⟨l, hl⟩ : ∃ l, s.data.toList = l := ⟨_, rfl⟩
  have HS := Lib.hid (show s.size < 4294967281 by omega)
  have HL := Lib.hid hl
  have HCut := Lib.hid (Try.strings_Cut s ⟨#[47]⟩ m w HS.out hm)
  rw [hl] at HCut
  rw [show (⟨#[47]⟩ : ByteArray).data.toList = [47] from rfl] at HCut
  have HF := Lib.hid (show folderI l = if (Lib.cut l [47]).2.2 then (Lib.cut l [47]).1 else [] from rfl)
  obtain ⟨a, ha⟩ : ∃ a, (Lib.cut l [47]).1 = a := ⟨_, rfl⟩
  obtain ⟨b, hb⟩ : ∃ b, (Lib.cut l [47]).2.1 = b := ⟨_, rfl⟩
  obtain ⟨c, hc⟩ : ∃ c, (Lib.cut l [47]).2.2 = c := ⟨_, rfl⟩
  rw [ha, hb, hc] at HCut
  rw [ha, hc] at HF
  clear ha hb hc hl hs hm
  go_enter Try.func48, Try.ntmps48
  go_wp2_with fail
  refine HCut.out.mono ?_
  rintro e w' ⟨rfl, n, rfl⟩
  cases c with
  | false =>
    have HF2 := Lib.hid (show folderI l = [] by rw [HF.out]; rfl)
    go_wp2
    go_ret
    exact ⟨_, rfl, by rw [HL.out, HF2.out], n, rfl⟩
  | true =>
    have HF2 := Lib.hid (show folderI l = a by rw [HF.out]; rfl)
    go_wp2
    go_ret
    exact ⟨_, rfl, by rw [HL.out, HF2.out], n, rfl⟩
theorem put_any (w : World) (b0 n B : Nat) (l : List Fil) (p t : ByteArray) (hF : Folds w b0 n l B) (hn : n ≤ 4194400) (hp : p.size ≤ 1048600) (ht : t.size ≤ 1048600) (mx : Mx w) (hB : B ≤ w.heap.size) :
    Calls Try.prog 47 #[.map (some b0), .string p, .string t] w fun e w' => e = .returned (.tuple #[]) ∧ Folds w' b0 (n + 2) (l ++ [(p, t)]) B ∧ Below B w w' := by
  have HFO := Lib.hid (folderOf_any p w hp mx)
  have hmm := @run_makeMap Try.prog
  have hq := fun (w : World) (r : Option Nat) => run_eql_map_nil (P := Try.prog) w 67 _ _ r Try.underlying67
  have HF := Lib.hid hF
  have HPS := Lib.hid (show keyOf Try.prog 9 (.string p) = some (.string p.data.toList) from WideMaps.keyOf_string_mk Try.underlying9 (by unfold maxLen; omega))
  have HTV := Lib.hid (show plainElem (H := Unit) Try.prog 9 (.string t) = some (.lit (.string t.data.toList), []) from plainElem_string Try.underlying9 (by unfold maxLen; omega))
  clear hF mx
  go_enter Try.func47, Try.ntmps47
  go_wp2_with fail
  refine HFO.out.mono ?_
  rintro e W ⟨r, rfl, hr, m, hW⟩
  have HBW := Lib.hid (show Below B w W by rw [hW]; exact ⟨rfl, rfl, rfl, Nat.le_refl _, fun _ _ => rfl⟩)
  have HWB := Lib.hid (show B ≤ W.heap.size by rw [hW]; exact hB)
  have hFW := folds_kept HF.out (show w.grownBy W none by rw [hW]; exact gb_drewN w m none)
  have HRS := Lib.hid (show keyOf Try.prog 9 (.string r) = some (.string (folderI p.data.toList)) by
    rw [← hr]
    refine WideMaps.keyOf_string_mk Try.underlying9 ?_
    have h1 : r.data.toList.length = r.size := by simp
    have h2 := folderI_le p.data.toList
    rw [← hr] at h2
    have h3 : p.data.toList.length = p.size := by simp
    unfold maxLen
    omega)
  clear hr hW HF hB
  obtain ⟨D, hown, hBb, hout⟩ := hFW
  have HOWN := Lib.hid hown
  have HOUT := Lib.hid hout
  obtain ⟨v, ps, hrun, hv⟩ := hown.lookup keyedS Try.underlying59 (zeroM W) (zd := .nil) (zp := []) rfl HRS.out
  have hD := hown.isMap
  clear hown
  rcases hout.1 (folderI p.data.toList) with ⟨hnil, _⟩ | ⟨b, E, a1, a2, a3, a4, a5⟩
  · rw [hnil] at hv
    obtain rfl : v = .map none := by
      rcases readM_inv hv with ⟨h, _⟩ | ⟨_, _, h⟩
      · exact h
      · cases h
    have HNIL := Lib.hid hnil
    have HD := Lib.hid hD
    clear hnil hv hout hD
    go_wp2_with (first | (at_mapUpdate; go_must (refine wpList_mapUpdate_own _ rfl _ _ _ 59 rfl 9 67 keyedS Try.underlying59 readM b0 n D rfl (HOWN.out.alloc _) (by unfold maxLen; omega) _ (.map (some W.heap.size)) _ rfl rfl HRS.out _ [] rfl ?_); intro w2 hown2 hgrow2))
    have hb0W : b0 < W.heap.size := HOWN.out.lt
    obtain ⟨v2, ps2, hrun2, hv2⟩ := hown2.lookup keyedS Try.underlying59 (zeroM w2) (zd := .nil) (zp := []) rfl HRS.out
    rw [atKey_put_same HD.out (isKeyS _)] at hv2
    obtain rfl : v2 = .map (some W.heap.size) := by
      rcases readM_inv hv2 with ⟨_, h⟩ | ⟨b', h, h2⟩
      · cases h
      · injection h2 with h2
        injection h2 with _ h2
        rw [h, show b' = W.heap.size by omega]
    have HO2 := Lib.hid hown2
    have HG2 := Lib.hid hgrow2
    have HIN := Lib.hid ((World.ownsMap_made W Try.prog 9 (plainElem (H := Unit) Try.prog 9)).kept hgrow2 (by intro e; injection e with e; omega))
    have HEM := Lib.hid (show ∀ p' : ByteArray, folderI p'.data.toList = folderI p.data.toList → getL l p' = none by
      rcases HOUT.out.1 (folderI p.data.toList) with ⟨_, h4⟩ | ⟨b', E', a1, _⟩
      · exact h4
      · rw [HNIL.out] at a1
        cases a1)
    clear hown2 hgrow2 hv2
    rw [hrun2]
    go_wp2_with (first | (at_mapUpdate; go_must (refine wpList_mapUpdate_own _ rfl _ _ _ 67 rfl 9 9 keyedS Try.underlying67 (plainElem Try.prog 9) W.heap.size 0 _ rfl HIN.out (by unfold maxLen; omega) _ (.string t) _ rfl rfl HPS.out _ [] HTV.out ?_); intro w3 hown3 hgrow3))
    go_end0
    have hB2 : B ≤ (W.alloc (.map #[] 0)).heap.size := by simp; have := HWB.out; omega
    have ho := outer_put (outer_mono (outer_new HD.out HOUT.out HNIL.out (Nat.le_refl _) HWB.out (by omega) (HIN.out.mono (Nat.zero_le n)) (fun j E hj hne h => (h.alloc _).kept HG2.out (fun e => hne (by injection e)))) (Nat.le_succ n))
      (atKey_put_same HD.out (isKeyS _) _ _) HWB.out (by omega) isMap_empty (inner_empty HEM.out) (hown3.mono (by omega)) hgrow3
    refine ⟨rfl, ⟨_, (HO2.out.kept hgrow3 (by intro e; injection e with e; omega)).mono (by omega), hBb, ho⟩, ?_⟩
    exact bel_gb (bel_gb (HBW.out.alloc HWB.out _) HG2.out hB2 (fun g e => by injection e with e; omega)) hgrow3 (Nat.le_trans hB2 HG2.out.size) (fun g e => by injection e with e; have := HWB.out; omega)
  · rw [a1] at hv
    obtain rfl : v = .map (some b) := by
      rcases readM_inv hv with ⟨_, h⟩ | ⟨b', h, h2⟩
      · cases h
      · injection h2 with h2
        injection h2 with _ h2
        rw [h, show b' = b by omega]
    have HA1 := Lib.hid a1
    have HA4 := Lib.hid a4
    have HA5 := Lib.hid a5
    clear a1 a4 a5 hv hout hD
    go_wp2_with (first | (at_mapUpdate; go_must (refine wpList_mapUpdate_own _ rfl _ _ _ 67 rfl 9 9 keyedS Try.underlying67 (plainElem Try.prog 9) b n E rfl HA4.out (by unfold maxLen; omega) _ (.string t) _ rfl rfl HPS.out _ [] HTV.out ?_); intro w3 hown3 hgrow3))
    go_end0
    have ho := outer_put HOUT.out HA1.out a2 a3 HA4.out.isMap HA5.out hown3 hgrow3
    refine ⟨rfl, ⟨_, (HOWN.out.kept hgrow3 (by intro e; injection e with e; omega)).mono (by omega), hBb, outer_mono ho (Nat.le_succ _)⟩, ?_⟩
    exact bel_gb HBW.out hgrow3 HWB.out (fun g e => by injection e with e; omega)
end
end Go.Proofs.Ytndiofhinlogmaa
