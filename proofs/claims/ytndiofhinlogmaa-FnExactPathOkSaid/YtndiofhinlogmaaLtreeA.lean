/- The laws of paths: both functions answer alike; a path is a name, or one in a folder. -/
import Derived.Test.YtndiofhinlogmaaPathOk
import Derived.Test.YtndiofhinlogmaaDrawPath
import Derived.Below
namespace Go.Proofs.Ytndiofhinlogmaa
open Go.RowKit
theorem bel_d {B : Nat} {w w' : World} (h : Below B w w') (n : Nat) : Below B w (w'.drewN n) := ⟨h.os, h.tape, h.output, h.size, h.block⟩
/-- of the letters at 0, 2, 4 .. the first k are names -/
def evs (l : List UInt8) : Nat → Bool
  | 0 => true
  | k + 1 => evs l k && (match l[2 * k]? with
    | some x => isNm x
    | none => true)
def baseB (l : List UInt8) : Bool := l.length == 1 || (l.length == 3 && l[1]? == some 47)
theorem evs_end {l : List UInt8} {k : Nat} (h5 : l.length ≤ 5) (h : l.length ≤ 2 * k) (hk : 2 * k ≤ l.length + 1) : (baseB l && evs l k) = pathB l := by
  match l, h5 with
  | [], _ => simp [baseB, pathB]
  | [x], _ =>
    have : k = 1 := by simp at h hk; omega
    subst this
    simp [baseB, pathB, evs]
  | [x, y], _ => simp [baseB, pathB]
  | [x, y, z], _ =>
    have : k = 2 := by simp at h hk; omega
    subst this
    rw [show evs [x, y, z] 2 = (isNm x && isNm z) by simp [evs]]
    simp only [baseB, pathB]
    cases isNm x <;> cases isNm z <;> by_cases hy : y = 47 <;> simp [hy]
  | [x, y, z, u], _ => simp [baseB, pathB]
  | [x, y, z, u, v], _ => simp [baseB, pathB]
section
set_option maxHeartbeats 1600000
theorem lawFnExactPathOk (s : ByteArray) (w : World) (_ : s.size ≤ maxLen) (mx : Mx w) : Calls Try.prog 3 #[.string s] w fun e w' => e = .returned (.bool true) ∧ Below w.heap.size w w' := by
  by_cases hl : s.size ≤ 1048576
  · have MX := Lib.hid mx
    clear mx
    go_enter Try.func3, Try.ntmps3
    go_wp2_with fail
    refine (pathOkS_any s w).mono ?_
    rintro e w1 ⟨rfl, n1, rfl⟩
    go_wp2_with fail
    refine (pathOk_any s (w.drewN n1) (by omega) (MX.out.drewN n1)).mono ?_
    rintro e w2 ⟨rfl, n2, rfl⟩
    have hb : (pathB s.data.toList != pathB s.data.toList) = false := by simp
    go_wp2
    go_ret
    exact ⟨rfl, bel_d (Below.refl _ _) _⟩
  · go_enter Try.func3, Try.ntmps3
    go_wp2
    go_ret
    exact ⟨rfl, Below.refl _ _⟩
theorem lawFnPath (a : Option Addr) (len cap : Nat) (zs : List Int) (w : World) (h : Code w a len cap zs) (mx : Mx w) : Calls Try.prog 4 #[.slice a len cap] w fun e w' => e = .returned (.bool true) ∧ Below w.heap.size w w' := by
  by_cases hl : len ≤ 1048576
  · have MX := Lib.hid mx
    clear mx
    go_enter Try.func4, Try.ntmps4
    go_wp2_with fail
    refine (drawPathOk_any a len cap zs w h).mono ?_
    rintro e w1 ⟨s, rfl, hs, hb⟩
    have HB := Lib.hid hb
    have MX1 := Lib.hid (MX.out.next hb)
    clear hb h
    go_wp2_with fail
    refine (pathOk_any s w1 (by omega) MX1.out).mono ?_
    rintro e w2 ⟨rfl, n2, rfl⟩
    obtain ⟨ok, hok⟩ : ∃ ok, pathB s.data.toList = ok := ⟨_, rfl⟩
    have HOK := Lib.hid hok
    rw [hok]
    clear hok
    go_wp2_with fail
    refine (pathOkS_any s _).mono ?_
    rintro e w3 ⟨rfl, n3, rfl⟩
    rw [HOK.out]
    have hb : (ok != ok) = false := by simp
    obtain ⟨W, hW⟩ : ∃ W, (w1.drewN n2).drewN n3 = W := ⟨_, rfl⟩
    have hW2 : w1.drewN (n2 + n3) = W := by rw [← hW, World.drewN_drewN]
    have HBW := Lib.hid (show Below w.heap.size w W by rw [← hW]; exact bel_d (bel_d HB.out n2) n3)
    first | rw [hW] | rw [hW2]
    clear hW hW2
    by_cases h1 : s.size = 1
    · have hb1 : ((s.size : Int) == 1) = true := by simp [h1]
      have HBA := Lib.hid (show baseB s.data.toList = true by simp [baseB, h1])
      clear h1
      go_wp2_with fail
      go_loopw [5, 6] (fun c i wr => ∃ (k j : Nat), j = 2 * k ∧ j ≤ s.size + 1 ∧ i = .int .i64 (j : Int) ∧ c = .bool (baseB s.data.toList && evs s.data.toList k) ∧ wr = W) (fun _ i _ => s.size + 2 - (intOf i).toNat)
      case atStart => exact ⟨0, 0, rfl, by omega, rfl, by rw [HBA.out]; rfl, rfl⟩
      case round =>
        obtain ⟨k, j, hj, hjs, rfl, rfl, rfl⟩ := hrel
        have HJ := Lib.hid hj
        clear hj
        have hj0 : (0 : Int) ≤ (j : Int) := by omega
        by_cases hlt : j < s.size
        · have hi1 : (j : Int) < (s.size : Int) := by omega
          have HG := Lib.hid (get_data s j hlt)
          cases hc : (baseB s.data.toList && evs s.data.toList k) with
          | false =>
            have HN := Lib.hid (show (baseB s.data.toList && evs s.data.toList (k + 1)) = false by rw [evs, ← Bool.and_assoc, hc]; rfl)
            clear hc
            go_wp2
            go_roundw
            case rel => exact ⟨k + 1, j + 2, by have := HJ.out; omega, by omega, by go_num, by rw [HN.out], trivial⟩
            case measure => simp [intOf]; omega
          | true =>
            have HN := Lib.hid (show (baseB s.data.toList && evs s.data.toList (k + 1)) = isNm s[j] by
              rw [evs, ← Bool.and_assoc, hc, ← HJ.out, HG.out]; rfl)
            have HM := Lib.hid (isNm_int s[j])
            clear hc
            by_cases a1 : 97 ≤ (s[j].toNat : Int)
            · by_cases a2 : (s[j].toNat : Int) ≤ 101
              · have HV := Lib.hid (show isNm s[j] = true by rw [HM.out]; simp; omega)
                go_wp2
                go_roundw
                case rel => exact ⟨k + 1, j + 2, by have := HJ.out; omega, by omega, by go_num, by rw [HN.out, HV.out], trivial⟩
                case measure => simp [intOf]; omega
              · have HV := Lib.hid (show isNm s[j] = false by rw [HM.out]; simp; omega)
                go_wp2
                go_roundw
                case rel => exact ⟨k + 1, j + 2, by have := HJ.out; omega, by omega, by go_num, by rw [HN.out, HV.out], trivial⟩
                case measure => simp [intOf]; omega
            · have HV := Lib.hid (show isNm s[j] = false by rw [HM.out]; simp; omega)
              go_wp2
              go_roundw
              case rel => exact ⟨k + 1, j + 2, by have := HJ.out; omega, by omega, by go_num, by rw [HN.out, HV.out], trivial⟩
              case measure => simp [intOf]; omega
        · have HF := Lib.hid (show (baseB s.data.toList && evs s.data.toList k) = ok by
            rw [← HOK.out]
            exact evs_end (by rw [size_list]; exact hs) (by rw [size_list, ← HJ.out]; omega) (by rw [size_list, ← HJ.out]; omega))
          rw [HF.out]
          go_wp2
          go_ret
          exact ⟨ret_bool (by simp), HBW.out⟩
    · have hb1 : ((s.size : Int) == 1) = false := by simp; omega
      by_cases h3 : s.size = 3
      · have hb3 : ((s.size : Int) == 3) = true := by simp [h3]
        have h10 : 1 < s.size := by omega
        have h11 : (1 : Int) < (s.size : Int) := by omega
        have HG1 := Lib.hid (get_data s 1 h10)
        by_cases e : s[1] = 47
        · have e1 : ((s[1].toNat : Int) == 47) = true := by rw [e]; rfl
          have HBA := Lib.hid (show baseB s.data.toList = true by simp only [baseB, HG1.out, e, size_list, h3]; decide)
          clear h1 h3 e
          go_wp2_with fail
          go_loopw [5, 6] (fun c i wr => ∃ (k j : Nat), j = 2 * k ∧ j ≤ s.size + 1 ∧ i = .int .i64 (j : Int) ∧ c = .bool (baseB s.data.toList && evs s.data.toList k) ∧ wr = W) (fun _ i _ => s.size + 2 - (intOf i).toNat)
          case atStart => exact ⟨0, 0, rfl, by omega, rfl, by rw [HBA.out]; rfl, rfl⟩
          case round =>
            obtain ⟨k, j, hj, hjs, rfl, rfl, rfl⟩ := hrel
            have HJ := Lib.hid hj
            clear hj
            have hj0 : (0 : Int) ≤ (j : Int) := by omega
            by_cases hlt : j < s.size
            · have hi1 : (j : Int) < (s.size : Int) := by omega
              have HG := Lib.hid (get_data s j hlt)
              cases hc : (baseB s.data.toList && evs s.data.toList k) with
              | false =>
                have HN := Lib.hid (show (baseB s.data.toList && evs s.data.toList (k + 1)) = false by rw [evs, ← Bool.and_assoc, hc]; rfl)
                clear hc
                go_wp2
                go_roundw
                case rel => exact ⟨k + 1, j + 2, by have := HJ.out; omega, by omega, by go_num, by rw [HN.out], trivial⟩
                case measure => simp [intOf]; omega
              | true =>
                have HN := Lib.hid (show (baseB s.data.toList && evs s.data.toList (k + 1)) = isNm s[j] by
                  rw [evs, ← Bool.and_assoc, hc, ← HJ.out, HG.out]; rfl)
                have HM := Lib.hid (isNm_int s[j])
                clear hc
                by_cases a1 : 97 ≤ (s[j].toNat : Int)
                · by_cases a2 : (s[j].toNat : Int) ≤ 101
                  · have HV := Lib.hid (show isNm s[j] = true by rw [HM.out]; simp; omega)
                    go_wp2
                    go_roundw
                    case rel => exact ⟨k + 1, j + 2, by have := HJ.out; omega, by omega, by go_num, by rw [HN.out, HV.out], trivial⟩
                    case measure => simp [intOf]; omega
                  · have HV := Lib.hid (show isNm s[j] = false by rw [HM.out]; simp; omega)
                    go_wp2
                    go_roundw
                    case rel => exact ⟨k + 1, j + 2, by have := HJ.out; omega, by omega, by go_num, by rw [HN.out, HV.out], trivial⟩
                    case measure => simp [intOf]; omega
                · have HV := Lib.hid (show isNm s[j] = false by rw [HM.out]; simp; omega)
                  go_wp2
                  go_roundw
                  case rel => exact ⟨k + 1, j + 2, by have := HJ.out; omega, by omega, by go_num, by rw [HN.out, HV.out], trivial⟩
                  case measure => simp [intOf]; omega
            · have HF := Lib.hid (show (baseB s.data.toList && evs s.data.toList k) = ok by
                rw [← HOK.out]
                exact evs_end (by rw [size_list]; exact hs) (by rw [size_list, ← HJ.out]; omega) (by rw [size_list, ← HJ.out]; omega))
              rw [HF.out]
              go_wp2
              go_ret
              exact ⟨ret_bool (by simp), HBW.out⟩
        · have e1 : ((s[1].toNat : Int) == 47) = false := by
            rw [beq_eq_false_iff_ne]
            intro h
            apply e
            apply UInt8.toNat_inj.1
            simp; omega
          have HBA := Lib.hid (show baseB s.data.toList = false by simp only [baseB, HG1.out, size_list, h3]; simp [e])
          clear h1 h3 e
          go_wp2_with fail
          go_loopw [5, 6] (fun c i wr => ∃ (k j : Nat), j = 2 * k ∧ j ≤ s.size + 1 ∧ i = .int .i64 (j : Int) ∧ c = .bool (baseB s.data.toList && evs s.data.toList k) ∧ wr = W) (fun _ i _ => s.size + 2 - (intOf i).toNat)
          case atStart => exact ⟨0, 0, rfl, by omega, rfl, by rw [HBA.out]; rfl, rfl⟩
          case round =>
            obtain ⟨k, j, hj, hjs, rfl, rfl, rfl⟩ := hrel
            have HJ := Lib.hid hj
            clear hj
            have hj0 : (0 : Int) ≤ (j : Int) := by omega
            by_cases hlt : j < s.size
            · have hi1 : (j : Int) < (s.size : Int) := by omega
              have HG := Lib.hid (get_data s j hlt)
              cases hc : (baseB s.data.toList && evs s.data.toList k) with
              | false =>
                have HN := Lib.hid (show (baseB s.data.toList && evs s.data.toList (k + 1)) = false by rw [evs, ← Bool.and_assoc, hc]; rfl)
                clear hc
                go_wp2
                go_roundw
                case rel => exact ⟨k + 1, j + 2, by have := HJ.out; omega, by omega, by go_num, by rw [HN.out], trivial⟩
                case measure => simp [intOf]; omega
              | true =>
                have HN := Lib.hid (show (baseB s.data.toList && evs s.data.toList (k + 1)) = isNm s[j] by
                  rw [evs, ← Bool.and_assoc, hc, ← HJ.out, HG.out]; rfl)
                have HM := Lib.hid (isNm_int s[j])
                clear hc
                by_cases a1 : 97 ≤ (s[j].toNat : Int)
                · by_cases a2 : (s[j].toNat : Int) ≤ 101
                  · have HV := Lib.hid (show isNm s[j] = true by rw [HM.out]; simp; omega)
                    go_wp2
                    go_roundw
                    case rel => exact ⟨k + 1, j + 2, by have := HJ.out; omega, by omega, by go_num, by rw [HN.out, HV.out], trivial⟩
                    case measure => simp [intOf]; omega
                  · have HV := Lib.hid (show isNm s[j] = false by rw [HM.out]; simp; omega)
                    go_wp2
                    go_roundw
                    case rel => exact ⟨k + 1, j + 2, by have := HJ.out; omega, by omega, by go_num, by rw [HN.out, HV.out], trivial⟩
                    case measure => simp [intOf]; omega
                · have HV := Lib.hid (show isNm s[j] = false by rw [HM.out]; simp; omega)
                  go_wp2
                  go_roundw
                  case rel => exact ⟨k + 1, j + 2, by have := HJ.out; omega, by omega, by go_num, by rw [HN.out, HV.out], trivial⟩
                  case measure => simp [intOf]; omega
            · have HF := Lib.hid (show (baseB s.data.toList && evs s.data.toList k) = ok by
                rw [← HOK.out]
                exact evs_end (by rw [size_list]; exact hs) (by rw [size_list, ← HJ.out]; omega) (by rw [size_list, ← HJ.out]; omega))
              rw [HF.out]
              go_wp2
              go_ret
              exact ⟨ret_bool (by simp), HBW.out⟩
      · have hb3 : ((s.size : Int) == 3) = false := by simp; omega
        have HBA := Lib.hid (show baseB s.data.toList = false by simp [baseB, h1, h3])
        clear h1 h3
        go_wp2_with fail
        go_loopw [5, 6] (fun c i wr => ∃ (k j : Nat), j = 2 * k ∧ j ≤ s.size + 1 ∧ i = .int .i64 (j : Int) ∧ c = .bool (baseB s.data.toList && evs s.data.toList k) ∧ wr = W) (fun _ i _ => s.size + 2 - (intOf i).toNat)
        case atStart => exact ⟨0, 0, rfl, by omega, rfl, by rw [HBA.out]; rfl, rfl⟩
        case round =>
          obtain ⟨k, j, hj, hjs, rfl, rfl, rfl⟩ := hrel
          have HJ := Lib.hid hj
          clear hj
          have hj0 : (0 : Int) ≤ (j : Int) := by omega
          by_cases hlt : j < s.size
          · have hi1 : (j : Int) < (s.size : Int) := by omega
            have HG := Lib.hid (get_data s j hlt)
            cases hc : (baseB s.data.toList && evs s.data.toList k) with
            | false =>
              have HN := Lib.hid (show (baseB s.data.toList && evs s.data.toList (k + 1)) = false by rw [evs, ← Bool.and_assoc, hc]; rfl)
              clear hc
              go_wp2
              go_roundw
              case rel => exact ⟨k + 1, j + 2, by have := HJ.out; omega, by omega, by go_num, by rw [HN.out], trivial⟩
              case measure => simp [intOf]; omega
            | true =>
              have HN := Lib.hid (show (baseB s.data.toList && evs s.data.toList (k + 1)) = isNm s[j] by
                rw [evs, ← Bool.and_assoc, hc, ← HJ.out, HG.out]; rfl)
              have HM := Lib.hid (isNm_int s[j])
              clear hc
              by_cases a1 : 97 ≤ (s[j].toNat : Int)
              · by_cases a2 : (s[j].toNat : Int) ≤ 101
                · have HV := Lib.hid (show isNm s[j] = true by rw [HM.out]; simp; omega)
                  go_wp2
                  go_roundw
                  case rel => exact ⟨k + 1, j + 2, by have := HJ.out; omega, by omega, by go_num, by rw [HN.out, HV.out], trivial⟩
                  case measure => simp [intOf]; omega
                · have HV := Lib.hid (show isNm s[j] = false by rw [HM.out]; simp; omega)
                  go_wp2
                  go_roundw
                  case rel => exact ⟨k + 1, j + 2, by have := HJ.out; omega, by omega, by go_num, by rw [HN.out, HV.out], trivial⟩
                  case measure => simp [intOf]; omega
              · have HV := Lib.hid (show isNm s[j] = false by rw [HM.out]; simp; omega)
                go_wp2
                go_roundw
                case rel => exact ⟨k + 1, j + 2, by have := HJ.out; omega, by omega, by go_num, by rw [HN.out, HV.out], trivial⟩
                case measure => simp [intOf]; omega
          · have HF := Lib.hid (show (baseB s.data.toList && evs s.data.toList k) = ok by
              rw [← HOK.out]
              exact evs_end (by rw [size_list]; exact hs) (by rw [size_list, ← HJ.out]; omega) (by rw [size_list, ← HJ.out]; omega))
            rw [HF.out]
            go_wp2
            go_ret
            exact ⟨ret_bool (by simp), HBW.out⟩
  · go_enter Try.func4, Try.ntmps4
    go_wp2
    go_ret
    exact ⟨rfl, Below.refl _ _⟩
end
end Go.Proofs.Ytndiofhinlogmaa
