/- Both functions that ask for a path return the same answer. -/
import Derived.Test.YtndiofhinlogmaaPath
import Derived.Deep.QuietTactic
import Derived.BigQuiet
namespace Go.Proofs.Ytndiofhinlogmaa
open Go.RowKit
/-- the length that the machine's own search tells, whatever it is -/
def Mx (w : World) : Prop := ∃ m, w.cell? ⟨0, 0, none⟩ = some (.int .i64 m)
theorem Mx.lt {w : World} (h : Mx w) : 0 < w.heap.size := by
  obtain ⟨m, hm⟩ := h
  rcases Nat.lt_or_ge 0 w.heap.size with h' | h'
  · exact h'
  · simp [World.cell?, Array.getElem?_eq_none h'] at hm
theorem Mx.next {w w' : World} (h : Mx w) (hb : Below w.heap.size w w') : Mx w' := by
  have hl := h.lt
  obtain ⟨m, hm⟩ := h
  exact ⟨m, (hb.cell (p := ⟨0, 0, none⟩) hl).trans hm⟩
theorem Mx.drewN {w : World} (h : Mx w) (n : Nat) : Mx (w.drewN n) := h
section
set_option maxHeartbeats 800000
theorem pathOk_any (s : ByteArray) (w : World) (hs : s.size ≤ 1048600) (hm : Mx w) :
    Calls Try.prog 10 #[.string s] w fun e w' => e = .returned (.bool (pathB s.data.toList)) ∧ ∃ n, w' = w.drewN n := by
  obtain ⟨m, hm⟩ := hm
  obtain ⟨l, hl⟩ : ∃ l, s.data.toList = l := ⟨_, rfl⟩
  have HS := Lib.hid (show s.size < 4294967281 by omega)
  have HP := Lib.hid (pathI_eq l)
  unfold pathI at HP
  have HL := Lib.hid hl
  have HCut := Lib.hid (Try.strings_Cut s ⟨#[47]⟩ m w HS.out hm)
  rw [hl] at HCut
  rw [show (⟨#[47]⟩ : ByteArray).data.toList = [47] from rfl] at HCut
  obtain ⟨a, ha⟩ : ∃ a, (Lib.cut l [47]).1 = a := ⟨_, rfl⟩
  obtain ⟨b, hb⟩ : ∃ b, (Lib.cut l [47]).2.1 = b := ⟨_, rfl⟩
  obtain ⟨c, hc⟩ : ∃ c, (Lib.cut l [47]).2.2 = c := ⟨_, rfl⟩
  rw [ha, hb, hc] at HP HCut
  clear ha hb hc hl hs hm
  go_enter Try.func10, Try.ntmps10
  go_wp2_with fail
  refine HCut.out.mono ?_
  rintro e w' ⟨rfl, n, rfl⟩
  go_wp2_with fail
  refine (folderLetter_any _ _).mono ?_
  rintro e w' ⟨rfl, rfl⟩
  rw [show (⟨a.toArray⟩ : ByteArray).data.toList = a by simp]
  cases h1 : nameB a with
  | false =>
    have HR := Lib.hid (show pathB l = false by rw [← HP.out, h1]; rfl)
    go_wp2
    go_ret
    exact ⟨ret_bool (by rw [HL.out]; exact HR.out.symm), n, rfl⟩
  | true =>
    cases c with
    | false =>
      have HR := Lib.hid (show pathB l = true by rw [← HP.out, h1]; rfl)
      go_wp2
      go_ret
      exact ⟨ret_bool (by rw [HL.out]; exact HR.out.symm), n, rfl⟩
    | true =>
      have HR := Lib.hid (show pathB l = nameB b by rw [← HP.out, h1]; simp)
      go_wp2_with fail
      refine (folderLetter_any _ _).mono ?_
      rintro e w' ⟨rfl, rfl⟩
      rw [show (⟨b.toArray⟩ : ByteArray).data.toList = b by simp]
      go_wp2
      go_ret
      exact ⟨ret_bool (by rw [HL.out]; exact HR.out.symm), n, rfl⟩
theorem pathOkS_any (s : ByteArray) (w : World) :
    Calls Try.prog 9 #[.string s] w fun e w' => e = .returned (.bool (pathB s.data.toList)) ∧ ∃ n, w' = w.drewN n := by
  by_cases h1 : s.size = 1
  · have hb : ((s.size : Int) == 1) = true := by simp [h1]
    have h0 : 0 < s.size := by omega
    have HN := Lib.hid (show pathB s.data.toList = isNm s[0] by rw [list_one s h1]; rfl)
    go_enter Try.func9, Try.ntmps9
    go_wp2_with fail
    refine (l11Name_any _ _).mono ?_
    rintro e w' ⟨rfl, rfl⟩
    go_wp2
    go_ret
    exact ⟨ret_bool HN.out.symm, 0, rfl⟩
  · have hb : ((s.size : Int) == 1) = false := by simp; omega
    by_cases h3 : s.size = 3
    · have hb3 : ((s.size : Int) == 3) = true := by simp [h3]
      have h0 : 0 < s.size := by omega
      have h10 : 1 < s.size := by omega
      have h20 : 2 < s.size := by omega
      have HN := Lib.hid (show pathB s.data.toList = (isNm s[0] && (s[1] == 47) && isNm s[2]) by rw [list_three s h3]; rfl)
      go_enter Try.func9, Try.ntmps9
      go_wp2_with fail
      refine (l11Name_any _ _).mono ?_
      rintro e w' ⟨rfl, rfl⟩
      cases c0 : isNm s[0] with
      | false =>
        have HR := Lib.hid (show pathB s.data.toList = false by rw [HN.out, c0]; rfl)
        go_wp2
        go_ret
        exact ⟨ret_bool HR.out.symm, 0, rfl⟩
      | true =>
        by_cases e : s[1] = 47
        · have e1 : ((s[1].toNat : Int) == 47) = true := by rw [e]; rfl
          have HR := Lib.hid (show pathB s.data.toList = isNm s[2] by rw [HN.out, c0, e]; simp)
          clear e
          go_wp2_with fail
          refine (l11Name_any _ _).mono ?_
          rintro e w' ⟨rfl, rfl⟩
          go_wp2
          go_ret
          exact ⟨ret_bool HR.out.symm, 0, rfl⟩
        · have e1 : ((s[1].toNat : Int) == 47) = false := by
            rw [beq_eq_false_iff_ne]
            intro h
            apply e
            apply UInt8.toNat_inj.1
            simp; omega
          have HR := Lib.hid (show pathB s.data.toList = false by rw [HN.out]; simp [e])
          clear e
          go_wp2
          go_ret
          exact ⟨ret_bool HR.out.symm, 0, rfl⟩
    · have hb3 : ((s.size : Int) == 3) = false := by simp; omega
      have HN := Lib.hid (show pathB s.data.toList = false by
        match hd : s.data.toList with
        | [] => rfl
        | [x] => exact absurd (show s.size = 1 by rw [← size_list s, hd]; rfl) h1
        | [x, y] => rfl
        | [x, y, z] => exact absurd (show s.size = 3 by rw [← size_list s, hd]; rfl) h3
        | _ :: _ :: _ :: _ :: _ => rfl)
      go_enter Try.func9, Try.ntmps9
      go_wp2
      go_ret
      exact ⟨ret_bool HN.out.symm, 0, rfl⟩
end
end Go.Proofs.Ytndiofhinlogmaa
