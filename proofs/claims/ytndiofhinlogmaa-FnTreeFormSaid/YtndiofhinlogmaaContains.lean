/- Whether a file stands ahead of which another one would be in a folder: the library's search, at the closure that asks it. -/
import Derived.Test.YtndiofhinlogmaaTreeP
import Derived.Test.YtndiofhinlogmaaPathOk
import Derived.Test.YtndiofhinlogmaaFileS
namespace Go.Proofs.Ytndiofhinlogmaa
open Go.RowKit
section
set_option maxHeartbeats 1600000
theorem closure_any (s x : Fil) (B : Nat) (hx : x.1.size ≤ 1048600) (W : World) (hB : B < W.heap.size) (hc : W.cell? ⟨B, 0, none⟩ = some (.string s.1)) :
    Calls Try.prog 34 #[.agg #[.string x.1, .string x.2], .pointer (some ⟨B, 0, none⟩)] W fun e w' => e = .returned (.bool (under (pth x) (pth s))) ∧ Below W.heap.size W w' := by
  obtain ⟨a, b⟩ := x
  have hx2 : a.size ≤ 1048600 := hx
  have hne : B ≠ W.heap.size := by omega
  go_enter Try.func34, Try.ntmps34
  go_wp2_with fail
  have hb : (a ++ (⟨#[47]⟩ : ByteArray)).data.toList = a.data.toList ++ [47] := by
    rw [ByteArray.data_append, Array.toList_append]
  have HU := Lib.hid (show Lib.hasPrefix s.1.data.toList (a ++ (⟨#[47]⟩ : ByteArray)).data.toList = under (pth (a, b)) (pth s) by rw [hb]; rfl)
  clear hb
  have HC := Try.strings_HasPrefix s.1 (a ++ ⟨#[47]⟩) (W.alloc (Obj.cells #[Value.string a, Value.string b] 38))
  rw [HU.out] at HC
  refine HC.mono ?_
  rintro e w' ⟨rfl, rfl⟩
  clear HC
  obtain ⟨u, hu⟩ : ∃ u, under (pth (a, b)) (pth s) = u := ⟨_, rfl⟩
  have HV := Lib.hid hu
  rw [hu] at HU ⊢
  clear hu
  go_wp2
  go_ret
  exact ⟨ret_bool HV.out.symm, (Below.refl _ _).alloc (Nat.le_refl _) _⟩
theorem indexFunc_any (w : World) (v : Value) (l : List Fil) (B : Nat) (p : Fil → Bool) (hl : Lp w w.heap.size v (fvals l)) (hn : l.length ≤ 1048600)
    (hp : ∀ (W : World) (x : Fil), x ∈ l → Below w.heap.size w W → Calls Try.prog 34 #[.agg #[.string x.1, .string x.2], .pointer (some ⟨B, 0, none⟩)] W fun e w' => e = .returned (.bool (p x)) ∧ Below W.heap.size W w') :
    Calls Try.prog 45 #[v, .func (.func 34) #[] #[.pointer (some ⟨B, 0, none⟩)]] w fun e w' => (∃ r : Int, e = .returned (.int .i64 r) ∧ decide (0 ≤ r) = l.any p) ∧ Below w.heap.size w w' := by
  obtain ⟨A, c, rfl, hc, hx⟩ := hl
  rw [fvals_length] at *
  have HX := Lib.hid hx
  have HP := Lib.hid hp
  clear hx hp
  obtain ⟨n, hnn⟩ : ∃ n, l.length = n := ⟨_, rfl⟩
  have HN := Lib.hid hnn
  rw [hnn] at hn hc ⊢
  clear hnn
  go_enter Try.func45, Try.ntmps45
  go_wp2_with fail
  go_loopw [5, 8] (fun _ i wr => ∃ k : Nat, k ≤ n ∧ i = .int .i64 (k : Int) ∧ (l.take k).any p = false ∧ Below w.heap.size w wr) (fun _ i _ => n - (intOf i).toNat)
  case atStart => exact ⟨0, Nat.zero_le _, rfl, rfl, Below.refl _ _⟩
  case round =>
    obtain ⟨k, hk, rfl, ha, hb⟩ := hrel
    have HA := Lib.hid ha
    have HB := Lib.hid hb
    clear ha hb
    by_cases hlt : k < n
    · obtain ⟨⟨a, b⟩, hs⟩ : ∃ s, l[k]? = some s := ⟨_, List.getElem?_eq_getElem (by have := HN.out; omega)⟩
      obtain ⟨g, off, rfl, hg, hcg⟩ := HX.out (by have := HN.out; omega)
      obtain ⟨h1, h2⟩ := hcg k _ (fvals_get hs)
      have hc1 := (HB.out.cell (p := ⟨g, off + k * 2, none⟩) hg).trans h1
      have hc2 := (HB.out.cell (p := ⟨g, off + k * 2 + 1, none⟩) hg).trans h2
      have HS := Lib.hid hs
      have HC := Lib.hid (HP.out wr (a, b) (List.mem_of_getElem? hs) HB.out)
      clear h1 h2 hcg hs
      have hi1 : (k : Int) < (n : Int) := by omega
      cases hpx : p (a, b) with
      | true =>
        have HF := Lib.hid (show l.any p = true from List.any_eq_true.2 ⟨_, List.mem_of_getElem? HS.out, hpx⟩)
        rw [hpx] at HC
        clear hpx
        go_wp2_with fail
        refine HC.out.mono ?_
        rintro e w' ⟨rfl, hb⟩
        have HB2 := Lib.hid (HB.out.trans (hb.mono HB.out.size))
        clear hb
        go_wp2
        go_ret
        exact ⟨⟨_, rfl, by rw [HF.out]; simp⟩, HB2.out⟩
      | false =>
        have HF := Lib.hid (show (l.take (k + 1)).any p = false by rw [List.take_add_one, HS.out, List.any_append, HA.out]; simp [hpx])
        rw [hpx] at HC
        clear hpx
        go_wp2_with fail
        refine HC.out.mono ?_
        rintro e w' ⟨rfl, hb⟩
        have HB2 := Lib.hid (HB.out.trans (hb.mono HB.out.size))
        clear hb
        go_wp2
        go_roundw
        case rel => exact ⟨k + 1, by omega, by go_num, HF.out, HB2.out⟩
        case measure => simp [intOf]; omega
    · have HF := Lib.hid (show l.any p = false by
        have h1 := HA.out
        rwa [List.take_of_length_le (by have := HN.out; omega)] at h1)
      go_wp2
      go_ret
      exact ⟨⟨-1, rfl, by rw [HF.out]; decide⟩, HB.out⟩
theorem containsFunc_any (w : World) (v : Value) (l : List Fil) (B : Nat) (p : Fil → Bool) (hl : Lp w w.heap.size v (fvals l)) (hn : l.length ≤ 1048600)
    (hp : ∀ (W : World) (x : Fil), x ∈ l → Below w.heap.size w W → Calls Try.prog 34 #[.agg #[.string x.1, .string x.2], .pointer (some ⟨B, 0, none⟩)] W fun e w' => e = .returned (.bool (p x)) ∧ Below W.heap.size W w') :
    Calls Try.prog 33 #[v, .func (.func 34) #[] #[.pointer (some ⟨B, 0, none⟩)]] w fun e w' => e = .returned (.bool (l.any p)) ∧ Below w.heap.size w w' := by
  have HC := Lib.hid (indexFunc_any w v l B p hl hn hp)
  clear hl hp hn
  go_enter Try.func33, Try.ntmps33
  go_wp2_with fail
  refine HC.out.mono ?_
  rintro e w' ⟨⟨r, rfl, hr⟩, hb⟩
  have HB := Lib.hid hb
  have HR := Lib.hid hr
  clear hb hr
  go_wp2
  go_ret
  exact ⟨ret_bool HR.out, HB.out⟩
end
end Go.Proofs.Ytndiofhinlogmaa
