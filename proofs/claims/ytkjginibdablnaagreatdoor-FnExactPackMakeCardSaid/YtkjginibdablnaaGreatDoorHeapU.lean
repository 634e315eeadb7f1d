/- container/heap's four functions over a heap of items. -/
import Derived.Test.YtkjginibdablnaaGreatDoorHeapQ
import Derived.Deep.LoopGhost
namespace Go.Proofs.YtkjginibdablnaaGreatDoor
open Go.RowKit
theorem nm_of {l : List Itm} {k : Nat} {x : Int} {y : ByteArray} (h : l[k]? = some (x, y)) : nm l k = x := nm_at h
theorem kid_right {L : List Itm} {n i j1 j2 : Nat} {p q : Itm} (e1 : 2 * i + 1 = j1) (e2 : 2 * i + 2 = j2) (hp : L[j1]? = some p) (hq : L[j2]? = some q) (h : q.1 < p.1) : ∀ c, 0 < c → c < n → (c - 1) / 2 = i → nm L j2 ≤ nm L c := fun c _ _ _ => by
  rcases (show c = j1 ∨ c = j2 by omega) with h1 | h1
  · rw [h1, nm_at hp, nm_at hq]; omega
  · rw [h1]; exact Int.le_refl _
theorem kid_left {L : List Itm} {n i j1 j2 : Nat} {p q : Itm} (e1 : 2 * i + 1 = j1) (e2 : 2 * i + 2 = j2) (hp : L[j1]? = some p) (hq : L[j2]? = some q) (h : ¬ q.1 < p.1) : ∀ c, 0 < c → c < n → (c - 1) / 2 = i → nm L j1 ≤ nm L c := fun c _ _ _ => by
  rcases (show c = j1 ∨ c = j2 by omega) with h1 | h1
  · rw [h1]; exact Int.le_refl _
  · rw [h1, nm_at hp, nm_at hq]; omega
theorem kid_only {L : List Itm} {n i j1 j2 : Nat} (e1 : 2 * i + 1 = j1) (e2 : 2 * i + 2 = j2) (h : ¬ j2 < n) : ∀ c, 0 < c → c < n → (c - 1) / 2 = i → nm L j1 ≤ nm L c := fun c _ _ _ => by
  rw [show c = j1 by omega]; exact Int.le_refl _
theorem down_stop {L : List Itm} {n i j : Nat} (h : DownO L n i) (hc : ∀ c, 0 < c → c < n → (c - 1) / 2 = i → nm L j ≤ nm L c) (hlt : ¬ nm L j < nm L i) : HeapO L n := by
  refine down_done h (fun hq => ?_) (fun hq => ?_)
  · have := hc (2 * i + 1) (by omega) hq (by omega)
    omega
  · have := hc (2 * i + 2) (by omega) hq (by omega)
    omega
theorem nm_take {l : List Itm} {k m : Nat} (h : k < m) : nm (l.take m) k = nm l k := by
  unfold nm
  rw [List.getElem?_take_of_lt h]
theorem grown_dr {w w' : World} {row : Option Nat} (h : w.drew.grownBy w' row) : w.grownBy w' row := ⟨h.os, h.tape, h.output, h.size, h.block⟩
theorem hp_eq {B hb : Nat} {w w' : World} {v : Value} {l : List Itm} (h : HP B hb w v l) (e : w' = w.drew) : HP B hb w' v l := by rw [e]; exact h.drew
theorem grown_eq {w w' w2 : World} {row : Option Nat} (h : w.grownBy w' row) (e : w2 = w'.drew) : w.grownBy w2 row := by rw [e]; exact ⟨h.os, h.tape, h.output, h.size, h.block⟩
theorem sw_far {l : List Itm} {i j k : Nat} (hi : k ≠ i) (hj : k ≠ j) : (sw l i j)[k]? = l[k]? := by
  unfold sw
  rw [List.getElem?_set_ne (fun h => hj h.symm), List.getElem?_set_ne (fun h => hi h.symm)]
section
set_option maxHeartbeats 3200000
set_option maxRecDepth 100000
theorem heapUp_any (B hb : Nat) (w : World) (v : Value) (l : List Itm) (j : Nat) (h : HP B hb w v l) (hj : j < l.length) (hu : UpO l l.length j) (hn : l.length ≤ 2100000) :
    Calls Tryz.prog 54 #[.iface 55 (.pointer (some ⟨hb, 0, none⟩)), .int .i64 (j : Int)] w fun e w' => e = .returned (.tuple #[]) ∧
      ∃ l', HP B hb w' v l' ∧ l'.Perm l ∧ HeapO l' l.length ∧ w.grownBy w' v.ownBlock := by
  obtain ⟨n, hnn⟩ : ∃ n, l.length = n := ⟨_, rfl⟩
  obtain ⟨g, c, hv, _⟩ := own_someP h.own (by rw [ivals_length]; omega)
  rw [ivals_length, hnn] at hv
  subst hv
  have H := Lib.hid h
  have HU := Lib.hid hu
  have HN := Lib.hid hnn
  have hj2 : j < n := by omega
  rw [hnn] at HU hn ⊢
  have nl := nil_less ⟨hb, 0, none⟩
  have ns := nil_swap ⟨hb, 0, none⟩
  clear h hu hj hnn
  go_enter Tryz.func54, Tryz.ntmps54
  go_wp2_with fail
  go_loopw [1] (fun jv wr => ∃ (k : Nat) (L : List Itm), k < n ∧ jv = .int .i64 (k : Int) ∧ HP B hb wr (.slice (some ⟨g, 0, none⟩) n c) L ∧ L.length = n ∧ L.Perm l ∧ UpO L n k ∧ w.grownBy wr (some g)) (fun jv _ => (intOf jv).toNat)
  case atStart => exact ⟨j, l, hj2, rfl, H.out, HN.out, List.Perm.refl _, HU.out, grown_refl _ _⟩
  case round =>
    obtain ⟨k, L, hk, rfl, hp, hL, hperm, huo, hgr⟩ := hrel
    have HPk := Lib.hid hp
    have HLk := Lib.hid hL
    have HPE := Lib.hid hperm
    have HUO := Lib.hid huo
    have HGR := Lib.hid hgr
    clear hp hL hperm huo hgr
    rcases Nat.eq_zero_or_pos k with h0 | h0
    · have e0 : (k : Int) = 0 := by omega
      have HE0 := Lib.hid h0
      clear h0
      go_wp2_with fail
      go_end0
      exact ⟨rfl, L, HPk.out, HPE.out, up_done HUO.out (.inl HE0.out), HGR.out⟩
    · obtain ⟨i, hi⟩ : ∃ i, (k - 1) / 2 = i := ⟨_, rfl⟩
      obtain ⟨⟨x1, x2⟩, hx⟩ : ∃ s, L[k]? = some s := ⟨_, List.getElem?_eq_getElem (by have := HLk.out; omega)⟩
      obtain ⟨⟨y1, y2⟩, hy⟩ : ∃ s, L[i]? = some s := ⟨_, List.getElem?_eq_getElem (by have := HLk.out; omega)⟩
      have HI := Lib.hid hi
      have HX := Lib.hid hx
      have HY := Lib.hid hy
      have hd : ((k : Int) - 1) / 2 = (i : Int) := by omega
      have hne : ((i : Int) == (k : Int)) = false := beq_eq_false_iff_ne.2 (by omega)
      have hik : i < k := by omega
      have ml := method_less ⟨hb, 0, none⟩ wr _ HPk.out.c0
      have ms := method_swap ⟨hb, 0, none⟩ wr.drew _ HPk.out.drew.c0
      have HLS := Lib.hid (heapLess_any B g n c k i L _ _ wr HPk.out.own HLk.out hx hy (by omega))
      clear hi hx hy
      by_cases hlt : x1 < y1
      · have HSW := Lib.hid (heapSwap_any B g n c i k L wr.drew HPk.out.drew.own HLk.out (by omega) hk (by omega))
        have HLT := Lib.hid hlt
        rw [show decide ((x1, x2).1 < (y1, y2).1) = true from decide_eq_true hlt] at HLS
        clear hlt
        go_wp2_with (first | (go_at_call 115; go_must (refine HLS.out.mono ?_); rintro e w1 ⟨rfl, rfl⟩) | (go_at_call 118; go_must (refine HSW.out.mono ?_); rintro e w2 ⟨rfl, ho2, hg2⟩; have HO2 := Lib.hid ho2; have HG2 := Lib.hid hg2; clear ho2 hg2))
        go_roundw
        case rel =>
          refine ⟨i, sw L i k, by omega, rfl, HPk.out.drew.row HG2.out HO2.out, by rw [sw_length]; exact HLk.out, (sw_perm (by have := HLk.out; omega) (by have := HLk.out; omega)).trans HPE.out, ?_, ?_⟩
          · have h := up_step HUO.out h0 hk HLk.out.symm (by rw [HI.out, nm_of HX.out, nm_of HY.out]; exact HLT.out)
            rw [HI.out] at h
            exact h
          · exact grown_trans HGR.out (grown_dr HG2.out)
        case measure => simp [intOf]; omega
      · have HLT := Lib.hid hlt
        rw [show decide ((x1, x2).1 < (y1, y2).1) = false from decide_eq_false hlt] at HLS
        clear hlt
        go_wp2_with (first | (go_at_call 115; go_must (refine HLS.out.mono ?_); rintro e w1 ⟨rfl, rfl⟩))
        go_end0
        exact ⟨rfl, L, HPk.out.drew, HPE.out, up_done HUO.out (.inr (by rw [HI.out, nm_of HX.out, nm_of HY.out]; have := HLT.out; omega)), grown_trans HGR.out ⟨rfl, rfl, rfl, Nat.le_refl _, fun _ _ _ => rfl⟩⟩
theorem heapDown_any (B hb : Nat) (w : World) (v : Value) (l : List Itm) (n : Nat) (h : HP B hb w v l) (hl : 1 ≤ l.length) (hn : n ≤ l.length) (hu : DownO l n 0) (hm : l.length ≤ 2100000) :
    Calls Tryz.prog 55 #[.iface 55 (.pointer (some ⟨hb, 0, none⟩)), .int .i64 0, .int .i64 (n : Int)] w fun e w' => ∃ b : Bool, e = .returned (.bool b) ∧
      ∃ l', HP B hb w' v l' ∧ l'.Perm l ∧ (∀ q, n ≤ q → l'[q]? = l[q]?) ∧ HeapO l' n ∧ w.grownBy w' v.ownBlock := by
  obtain ⟨m, hnn⟩ : ∃ m, l.length = m := ⟨_, rfl⟩
  obtain ⟨g, c, hv, _⟩ := own_someP h.own (by rw [ivals_length]; omega)
  rw [ivals_length, hnn] at hv
  subst hv
  have H := Lib.hid h
  have HU := Lib.hid hu
  have HN := Lib.hid hnn
  rw [hnn] at hn hm
  have nl := nil_less ⟨hb, 0, none⟩
  have ns := nil_swap ⟨hb, 0, none⟩
  clear h hu hl hnn
  go_enter Tryz.func55, Tryz.ntmps55
  go_wp2_with fail
  go_loopw [7] (fun iv wr => ∃ (i : Nat) (L : List Itm), (i = 0 ∨ i < n) ∧ iv = .int .i64 (i : Int) ∧ HP B hb wr (.slice (some ⟨g, 0, none⟩) m c) L ∧ L.length = m ∧ L.Perm l ∧ (∀ q, n ≤ q → L[q]? = l[q]?) ∧ DownO L n i ∧ w.grownBy wr (some g)) (fun iv _ => n - (intOf iv).toNat)
  case atStart => exact ⟨0, l, .inl rfl, rfl, H.out, HN.out, List.Perm.refl _, fun _ _ => rfl, HU.out, grown_refl _ _⟩
  case round =>
    obtain ⟨i, L, hi, rfl, hp, hL, hperm, hfa, hdo, hgr⟩ := hrel
    have HPk := Lib.hid hp
    have HLk := Lib.hid hL
    have HPE := Lib.hid hperm
    have HFA := Lib.hid hfa
    have HDO := Lib.hid hdo
    have HGR := Lib.hid hgr
    have hib : i ≤ 2100000 := by omega
    obtain ⟨j1, hj1⟩ : ∃ j1, 2 * i + 1 = j1 := ⟨_, rfl⟩
    obtain ⟨j2, hj2⟩ : ∃ j2, 2 * i + 2 = j2 := ⟨_, rfl⟩
    have hjb : j1 ≤ 5000000 ∧ j2 ≤ 5000000 := by omega
    have z1 : 2 * (i : Int) + 1 = (j1 : Int) := by omega
    have z2 : (j1 : Int) + 1 = (j2 : Int) := by omega
    clear hp hL hperm hfa hdo hgr
    by_cases h1 : n ≤ j1
    · have g1 : (n : Int) ≤ (j1 : Int) := by omega
      go_wp2_with fail
      go_ret
      exact ⟨_, rfl, L, HPk.out, HPE.out, HFA.out, down_done HDO.out (by omega) (by omega), HGR.out⟩
    · have g1 : ¬ (n : Int) ≤ (j1 : Int) := by omega
      have g2 : ¬ (j1 : Int) < 0 := by omega
      obtain ⟨⟨x1, x2⟩, hx⟩ : ∃ s, L[i]? = some s := ⟨_, List.getElem?_eq_getElem (by have := HLk.out; omega)⟩
      have HX := Lib.hid hx
      have ml := method_less ⟨hb, 0, none⟩ wr _ HPk.out.c0
      by_cases h2 : j2 < n
      · obtain ⟨⟨p1, p2⟩, hp⟩ : ∃ s, L[j1]? = some s := ⟨_, List.getElem?_eq_getElem (by have := HLk.out; omega)⟩
        obtain ⟨⟨q1, q2⟩, hq⟩ : ∃ s, L[j2]? = some s := ⟨_, List.getElem?_eq_getElem (by have := HLk.out; omega)⟩
        have HP' := Lib.hid hp
        have HQ' := Lib.hid hq
        have h2n : (j2 : Int) < (n : Int) := by omega
        have HLS := Lib.hid (heapLess_any B g m c j2 j1 L _ _ wr HPk.out.own HLk.out hq hp (by omega))
        clear hp hq
        by_cases ht : q1 < p1
        · have HC := Lib.hid (kid_right (n := n) hj1 hj2 HP'.out HQ'.out ht)
          rw [show decide ((q1, q2).1 < (p1, p2).1) = true from decide_eq_true ht] at HLS
          clear ht
          go_wp2_with fail
          refine HLS.out.mono ?_
          rintro e w2 ⟨rfl, hd2⟩
          have HPl := Lib.hid (hp_eq HPk.out hd2)
          have HGl := Lib.hid (grown_eq HGR.out hd2)
          have ml2 := method_less ⟨hb, 0, none⟩ w2 _ HPl.out.c0
          clear hd2
          go_wp2_with fail
          obtain ⟨⟨z1, z2⟩, hz⟩ : ∃ s, L[j2]? = some s := ⟨_, List.getElem?_eq_getElem (by have := HLk.out; omega)⟩
          have HZ := Lib.hid hz
          refine (heapLess_any B g m c j2 i L _ _ _ HPl.out.own HLk.out hz hx (by omega)).mono ?_
          by_cases hlt : z1 < x1
          · have HLT := Lib.hid hlt
            rw [show decide ((z1, z2).1 < (x1, x2).1) = true from decide_eq_true hlt]
            clear hlt hz
            rintro e w3 ⟨rfl, hd3⟩
            have HP3 := Lib.hid (hp_eq HPl.out hd3)
            have HG3 := Lib.hid (grown_eq HGl.out hd3)
            have ms3 := method_swap ⟨hb, 0, none⟩ w3 _ HP3.out.c0
            clear hd3
            go_wp2_with fail
            refine (heapSwap_any B g m c i j2 L w3 HP3.out.own HLk.out (by omega) (by omega) (by omega)).mono ?_
            rintro e w4 ⟨rfl, ho4, hg4⟩
            have HO4 := Lib.hid ho4
            have HG4 := Lib.hid (grown_trans HG3.out hg4)
            have HP4 := Lib.hid (HP3.out.row hg4 ho4)
            clear ho4 hg4
            go_wp2_with fail
            go_roundw
            case rel =>
              refine ⟨j2, sw L i j2, by omega, rfl, HP4.out, by rw [sw_length]; exact HLk.out, (sw_perm (by have := HLk.out; omega) (by have := HLk.out; omega)).trans HPE.out, ?_, ?_, HG4.out⟩
              · intro q hq
                rw [sw_far (by omega) (by omega)]
                exact HFA.out q hq
              · exact down_step HDO.out (by have := HLk.out; omega) (by omega) (by omega) (by rw [nm_of HZ.out, nm_of HX.out]; exact HLT.out) HC.out
            case measure => simp [intOf]; omega
          · have HLT := Lib.hid hlt
            rw [show decide ((z1, z2).1 < (x1, x2).1) = false from decide_eq_false hlt]
            clear hlt hz
            rintro e w3 ⟨rfl, hd3⟩
            have HP3 := Lib.hid (hp_eq HPl.out hd3)
            have HG3 := Lib.hid (grown_eq HGl.out hd3)
            clear hd3
            go_wp2_with fail
            go_ret
            refine ⟨_, rfl, L, HP3.out, HPE.out, HFA.out, down_stop HDO.out HC.out (by rw [nm_of HZ.out, nm_of HX.out]; have := HLT.out; omega), HG3.out⟩
        · have HC := Lib.hid (kid_left (n := n) hj1 hj2 HP'.out HQ'.out ht)
          rw [show decide ((q1, q2).1 < (p1, p2).1) = false from decide_eq_false ht] at HLS
          clear ht
          go_wp2_with fail
          refine HLS.out.mono ?_
          rintro e w2 ⟨rfl, hd2⟩
          have HPl := Lib.hid (hp_eq HPk.out hd2)
          have HGl := Lib.hid (grown_eq HGR.out hd2)
          have ml2 := method_less ⟨hb, 0, none⟩ w2 _ HPl.out.c0
          clear hd2
          go_wp2_with fail
          obtain ⟨⟨z1, z2⟩, hz⟩ : ∃ s, L[j1]? = some s := ⟨_, List.getElem?_eq_getElem (by have := HLk.out; omega)⟩
          have HZ := Lib.hid hz
          refine (heapLess_any B g m c j1 i L _ _ _ HPl.out.own HLk.out hz hx (by omega)).mono ?_
          by_cases hlt : z1 < x1
          · have HLT := Lib.hid hlt
            rw [show decide ((z1, z2).1 < (x1, x2).1) = true from decide_eq_true hlt]
            clear hlt hz
            rintro e w3 ⟨rfl, hd3⟩
            have HP3 := Lib.hid (hp_eq HPl.out hd3)
            have HG3 := Lib.hid (grown_eq HGl.out hd3)
            have ms3 := method_swap ⟨hb, 0, none⟩ w3 _ HP3.out.c0
            clear hd3
            go_wp2_with fail
            refine (heapSwap_any B g m c i j1 L w3 HP3.out.own HLk.out (by omega) (by omega) (by omega)).mono ?_
            rintro e w4 ⟨rfl, ho4, hg4⟩
            have HO4 := Lib.hid ho4
            have HG4 := Lib.hid (grown_trans HG3.out hg4)
            have HP4 := Lib.hid (HP3.out.row hg4 ho4)
            clear ho4 hg4
            go_wp2_with fail
            go_roundw
            case rel =>
              refine ⟨j1, sw L i j1, by omega, rfl, HP4.out, by rw [sw_length]; exact HLk.out, (sw_perm (by have := HLk.out; omega) (by have := HLk.out; omega)).trans HPE.out, ?_, ?_, HG4.out⟩
              · intro q hq
                rw [sw_far (by omega) (by omega)]
                exact HFA.out q hq
              · exact down_step HDO.out (by have := HLk.out; omega) (by omega) (by omega) (by rw [nm_of HZ.out, nm_of HX.out]; exact HLT.out) HC.out
            case measure => simp [intOf]; omega
          · have HLT := Lib.hid hlt
            rw [show decide ((z1, z2).1 < (x1, x2).1) = false from decide_eq_false hlt]
            clear hlt hz
            rintro e w3 ⟨rfl, hd3⟩
            have HP3 := Lib.hid (hp_eq HPl.out hd3)
            have HG3 := Lib.hid (grown_eq HGl.out hd3)
            clear hd3
            go_wp2_with fail
            go_ret
            refine ⟨_, rfl, L, HP3.out, HPE.out, HFA.out, down_stop HDO.out HC.out (by rw [nm_of HZ.out, nm_of HX.out]; have := HLT.out; omega), HG3.out⟩
      · have h2n : decide ((j2 : Int) < (n : Int)) = false := decide_eq_false (by omega)
        have HC := Lib.hid (kid_only (L := L) hj1 hj2 h2)
        have HPl := Lib.hid HPk.out
        have HGl := Lib.hid HGR.out
        go_wp2_with fail
        obtain ⟨⟨z1, z2⟩, hz⟩ : ∃ s, L[j1]? = some s := ⟨_, List.getElem?_eq_getElem (by have := HLk.out; omega)⟩
        have HZ := Lib.hid hz
        refine (heapLess_any B g m c j1 i L _ _ _ HPl.out.own HLk.out hz hx (by omega)).mono ?_
        by_cases hlt : z1 < x1
        · have HLT := Lib.hid hlt
          rw [show decide ((z1, z2).1 < (x1, x2).1) = true from decide_eq_true hlt]
          clear hlt hz
          rintro e w3 ⟨rfl, hd3⟩
          have HP3 := Lib.hid (hp_eq HPl.out hd3)
          have HG3 := Lib.hid (grown_eq HGl.out hd3)
          have ms3 := method_swap ⟨hb, 0, none⟩ w3 _ HP3.out.c0
          clear hd3
          go_wp2_with fail
          refine (heapSwap_any B g m c i j1 L w3 HP3.out.own HLk.out (by omega) (by omega) (by omega)).mono ?_
          rintro e w4 ⟨rfl, ho4, hg4⟩
          have HO4 := Lib.hid ho4
          have HG4 := Lib.hid (grown_trans HG3.out hg4)
          have HP4 := Lib.hid (HP3.out.row hg4 ho4)
          clear ho4 hg4
          go_wp2_with fail
          go_roundw
          case rel =>
            refine ⟨j1, sw L i j1, by omega, rfl, HP4.out, by rw [sw_length]; exact HLk.out, (sw_perm (by have := HLk.out; omega) (by have := HLk.out; omega)).trans HPE.out, ?_, ?_, HG4.out⟩
            · intro q hq
              rw [sw_far (by omega) (by omega)]
              exact HFA.out q hq
            · exact down_step HDO.out (by have := HLk.out; omega) (by omega) (by omega) (by rw [nm_of HZ.out, nm_of HX.out]; exact HLT.out) HC.out
          case measure => simp [intOf]; omega
        · have HLT := Lib.hid hlt
          rw [show decide ((z1, z2).1 < (x1, x2).1) = false from decide_eq_false hlt]
          clear hlt hz
          rintro e w3 ⟨rfl, hd3⟩
          have HP3 := Lib.hid (hp_eq HPl.out hd3)
          have HG3 := Lib.hid (grown_eq HGl.out hd3)
          clear hd3
          go_wp2_with fail
          go_ret
          refine ⟨_, rfl, L, HP3.out, HPE.out, HFA.out, down_stop HDO.out HC.out (by rw [nm_of HZ.out, nm_of HX.out]; have := HLT.out; omega), HG3.out⟩
theorem heapPush_any (B hb : Nat) (w : World) (v : Value) (l : List Itm) (a : Int) (b : ByteArray) (h : HP B hb w v l) (hB : B ≤ w.heap.size) (ho : HeapO l l.length) (hn : l.length ≤ 2000000) :
    Calls Tryz.prog 31 #[.iface 55 (.pointer (some ⟨hb, 0, none⟩)), .iface 39 (.agg #[.int .i64 a, .string b])] w fun e w' => e = .returned (.tuple #[]) ∧
      ∃ v' l', HP B hb w' v' l' ∧ l'.Perm (l ++ [(a, b)]) ∧ HeapO l' l'.length ∧ (v'.ownBlock = v.ownBlock ∨ ∃ g, v'.ownBlock = some g ∧ w.heap.size ≤ g) ∧ HG w w' hb v := by
  have H := Lib.hid h
  have HO := Lib.hid ho
  have HBB := Lib.hid hB
  have np := nil_push ⟨hb, 0, none⟩
  have mp := method_push ⟨hb, 0, none⟩
  have nl := nil_len ⟨hb, 0, none⟩
  clear h ho hB
  go_enter Tryz.func31, Tryz.ntmps31
  go_wp2_with fail
  refine (heapPushM_any B hb w v l a b H.out HBB.out hn).mono ?_
  rintro e w1 ⟨rfl, v1, hp1, hv1, hg1⟩
  obtain ⟨A, c, hv⟩ := hp1.form
  subst hv
  have HV1 := Lib.hid hv1
  have HG1 := Lib.hid hg1
  have HP1 := Lib.hid hp1
  have hlen : (l ++ [(a, b)]).length = l.length + 1 := by simp
  have HU := Lib.hid (up_start HO.out (a, b))
  obtain ⟨n, hnn⟩ : ∃ n, l.length = n := ⟨_, rfl⟩
  rw [hlen, hnn] at hp1 HV1 HP1
  rw [hnn] at HU hn
  have HN := Lib.hid (hlen.trans (by rw [hnn]))
  have ml := method_len ⟨hb, 0, none⟩ w1 _ hp1.c0
  have hw : IntKind.i64.wrap (((n + 1 : Nat) : Int) - 1) = (n : Int) := by rw [IntKind.wrap_i64]; omega
  clear hp1 hv1 hg1 hlen hnn
  go_wp2_with fail
  refine (heapLen_any A (n + 1) c (by omega) w1).mono ?_
  rintro e w2 ⟨rfl, rfl⟩
  go_wp2_with fail
  refine (heapUp_any B hb _ _ _ n HP1.out (by rw [HN.out]; omega) (by rw [HN.out]; exact HU.out) (by rw [HN.out]; omega)).mono ?_
  rintro e w3 ⟨rfl, l', hp3, hpe3, ho3, hg3⟩
  have HP3 := Lib.hid hp3
  have HPE3 := Lib.hid hpe3
  have HO3 := Lib.hid ho3
  have HG3 := Lib.hid hg3
  clear hp3 hpe3 ho3 hg3
  go_wp2_with fail
  go_end0
  exact ⟨rfl, _, l', HP3.out, HPE3.out, by rw [HPE3.out.length_eq]; exact HO3.out, HV1.out, HG1.out.trans (HG.of_row HG3.out) HV1.out⟩
theorem heapPop_any (B hb : Nat) (w : World) (v : Value) (l : List Itm) (h : HP B hb w v l) (h1 : 1 ≤ l.length) (ho : HeapO l l.length) (hn : l.length ≤ 2000000) :
    Calls Tryz.prog 33 #[.iface 55 (.pointer (some ⟨hb, 0, none⟩))] w fun e w' => ∃ (a : Int) (b : ByteArray), e = .returned (.iface 39 (.agg #[.int .i64 a, .string b])) ∧
      ∃ v' l', HP B hb w' v' l' ∧ (l' ++ [(a, b)]).Perm l ∧ HeapO l' l'.length ∧ (∀ s ∈ l, a ≤ s.1) ∧ v'.ownBlock = v.ownBlock ∧ HG w w' hb v := by
  obtain ⟨m, hm⟩ : ∃ m, l.length = m + 1 := ⟨l.length - 1, by omega⟩
  obtain ⟨n, hnm⟩ : ∃ n, m + 1 = n := ⟨_, rfl⟩
  rw [hnm] at hm
  obtain ⟨g, c, hv, _⟩ := own_someP h.own (by rw [ivals_length]; omega)
  rw [ivals_length, hm] at hv
  subst hv
  have H := Lib.hid h
  have HO := Lib.hid ho
  have HM := Lib.hid hm
  have nl := nil_len ⟨hb, 0, none⟩
  have ns := nil_swap ⟨hb, 0, none⟩
  have np := nil_pop ⟨hb, 0, none⟩
  have mp := method_pop ⟨hb, 0, none⟩
  have ml := method_len ⟨hb, 0, none⟩ w _ h.c0
  have ms := method_swap ⟨hb, 0, none⟩ w _ h.c0
  have hw : IntKind.i64.wrap ((n : Int) - 1) = (m : Int) := by rw [IntKind.wrap_i64]; omega
  have hnb : n ≤ 2000000 := by omega
  have h0n : 0 < n := by omega
  have hmn : m < n := by omega
  have HNM := Lib.hid hnm
  clear h ho h1 hn hm hnm
  go_enter Tryz.func33, Tryz.ntmps33
  go_wp2_with fail
  refine (heapLen_any (some ⟨g, 0, none⟩) n c (by omega) w).mono ?_
  rintro e w1 ⟨rfl, rfl⟩
  go_wp2_with fail
  refine (heapSwap_any B g n c 0 m l _ H.out.own HM.out h0n hmn (by omega)).mono ?_
  rintro e w2 ⟨rfl, ho2, hg2⟩
  have HP2 := Lib.hid (H.out.row hg2 ho2)
  have HG2 := Lib.hid hg2
  clear ho2 hg2
  go_wp2_with fail
  refine (heapDown_any B hb w2 _ (sw l 0 m) m HP2.out (by rw [sw_length, HM.out]; omega) (by rw [sw_length, HM.out]; omega) (down_start (by rw [HM.out]; exact HNM.out) (by rw [HNM.out, ← HM.out]; exact HO.out)) (by rw [sw_length, HM.out]; omega)).mono ?_
  rintro e w3 ⟨b0, rfl, l3, hp3, hpe3, hfa3, ho3, hg3⟩
  obtain ⟨⟨a, b⟩, hs⟩ : ∃ s, l[0]? = some s := ⟨_, List.getElem?_eq_getElem (by have := HM.out; omega)⟩
  have HS := Lib.hid hs
  have hl3 : l3.length = n := by rw [hpe3.length_eq, sw_length, HM.out]
  have hlast : l3[m]? = some (a, b) := by
    rw [hfa3 m (Nat.le_refl _)]
    unfold sw
    rw [List.getElem?_set_self (by rw [List.length_set, HM.out]; omega), hs]
    rfl
  have hsp : l3 = l3.take m ++ [(a, b)] := by
    have h1 : l3.take (m + 1) = l3.take m ++ [(a, b)] := by rw [List.take_add_one, hlast]; rfl
    rw [← h1, List.take_of_length_le (by rw [hl3, HNM.out]; omega)]
  have HSP := Lib.hid hsp
  have HL3 := Lib.hid hl3
  have HPE3 := Lib.hid hpe3
  have HO3 := Lib.hid ho3
  have HG3 := Lib.hid hg3
  have HP3 := Lib.hid (show HP B hb w3 _ (l3.take m ++ [(a, b)]) by rw [← hsp]; exact hp3)
  have HTL := Lib.hid (show (l3.take m).length = m by rw [List.length_take, hl3]; omega)
  clear hs hl3 hlast hsp hp3 hpe3 hfa3 ho3 hg3
  go_wp2_with fail
  refine (heapPopM_any B hb w3 _ (l3.take m) a b HP3.out (by rw [HTL.out]; omega)).mono ?_
  rintro e w4 ⟨rfl, v4, hp4, hv4, hg4⟩
  have HP4 := Lib.hid hp4
  have HV4 := Lib.hid hv4
  have HG4 := Lib.hid hg4
  clear hp4 hv4 hg4
  go_wp2_with fail
  go_ret
  refine ⟨a, b, rfl, v4, l3.take m, HP4.out, ?_, ?_, ?_, HV4.out, ?_⟩
  · rw [← HSP.out]
    exact HPE3.out.trans (sw_perm (by rw [HM.out]; omega) (by rw [HM.out]; omega))
  · rw [HTL.out]
    intro k hk0 hk
    rw [nm_take (by omega), nm_take (by omega)]
    exact HO3.out k hk0 hk
  · intro s hs
    obtain ⟨k, hk, rfl⟩ := List.mem_iff_getElem.1 hs
    have h1 := heap_min HO.out k k (Nat.le_refl _) hk
    rw [nm_of HS.out, nm_at (List.getElem?_eq_getElem hk)] at h1
    exact h1
  · exact ((HG.of_row (v := .slice (some ⟨g, 0, none⟩) n c) HG2.out).trans (HG.of_row HG3.out) (.inl rfl)).trans HG4.out (.inl rfl)
end
end Go.Proofs.YtkjginibdablnaaGreatDoor
