/- The walks of the laws on classes of drawn lengths and on the place where a piece ends: each returns true. -/
import Derived.Test.YtcldcgnfeegaeaaLsmall
import Derived.Test.YtcldcgnfeegaeaaRead
import Derived.Test.YtcldcgnfeegaeaaCut
namespace Go.Proofs.Ytcldcgnfeegaeaa
open Go.RowKit
section
set_option maxHeartbeats 400000
theorem lawFnExactCutAt (s : ByteArray) (fr : Int) (hs : s.size ≤ maxLen) (_ : (Lit.int .i64 fr).wf = true) (w : World) : Calls Try.prog 8 #[.string s, .int .i64 fr] w fun e w' => e = .returned (.bool true) ∧ ∃ n, w' = w.drewN n := by
  unfold maxLen at hs
  by_cases h : s.size ≤ 1048576
  all_goals
    go_enter Try.func8, Try.ntmps8
    go_wp2_with (first | (go_at_call 16; refine (CutAtS_any _ _ _ (by unfold maxLen; omega)).mono ?_; rintro e w' ⟨rfl, n1, rfl⟩) | (go_at_call 17; refine (CutAt_any _ _ _ (by unfold maxLen; omega)).mono ?_; rintro e w' ⟨rfl, n2, rfl⟩))
    go_ret
  · exact ⟨rfl, _, rfl⟩
  · exact ⟨rfl, 0, rfl⟩

def DrewInt (lo hi : Int) (w : World) (e : Ending) (w' : World) : Prop := ∃ n : Int, e = .returned (.int .i64 n) ∧ lo ≤ n ∧ n ≤ hi ∧ Below w.heap.size w w'
theorem drawClassOf_any (a : Option Addr) (len cap : Nat) (zs : List Int) (w : World) (h : Code w a len cap zs) : Calls Try.prog 15 #[.slice a len cap] w (DrewInt (-1) 10 w) := by
  go_enter Try.func15, Try.ntmps15
  go_wp2_with fail
  refine (open_any a len cap zs w h).mono ?_
  rintro e w1 ⟨rfl, hr, hb⟩
  have HB := Lib.hid hb
  clear hb h
  go_wp2_with fail
  refine (pick_any 12 w1 _ 0 hr (by omega) (by omega)).mono ?_
  rintro e w2 ⟨x, rfl, hx, _, _, hg⟩
  have hx2 := hx (by omega)
  have HG := Lib.hid hg
  clear hg hx hr
  go_wp2
  go_ret
  exact ⟨(x : Int) - 1, rfl, by omega, by omega, HB.out.grown HG.out HB.out.size (fun k e => by cases e; exact Nat.le_refl _)⟩
theorem lawFnClass (a : Option Addr) (len cap : Nat) (zs : List Int) (w : World) (h : Code w a len cap zs) : Calls Try.prog 7 #[.slice a len cap] w fun e w' => e = .returned (.bool true) ∧ Below w.heap.size w w' := by
  by_cases hl : len ≤ 1048576
  · go_enter Try.func7, Try.ntmps7
    go_wp2_with fail
    refine (drawClassOf_any a len cap zs w h).mono ?_
    rintro e w1 ⟨n, rfl, h1, h2, hb⟩
    have HB := Lib.hid hb
    clear hb h
    by_cases c0 : n < 1 ∨ 8 < n
    · have hz := classZ_0 c0
      rcases c0 with c0 | c0
      all_goals
        go_wp2_with (first | (go_at_call 9; refine (classOfS_any _ _).mono ?_; rintro e w' ⟨rfl, rfl⟩) | (go_at_call 10; refine (classOf_any _ _).mono ?_; rintro e w' ⟨rfl, rfl⟩))
        go_ret
        exact ⟨rfl, HB.out⟩
    · have c1 : 1 ≤ n := by omega
      have c8 : n ≤ 8 := by omega
      clear c0
      by_cases c2 : n ≤ 2
      · have hz := classZ_2 c1 c2
        go_wp2_with (first | (go_at_call 9; refine (classOfS_any _ _).mono ?_; rintro e w' ⟨rfl, rfl⟩) | (go_at_call 10; refine (classOf_any _ _).mono ?_; rintro e w' ⟨rfl, rfl⟩))
        go_ret
        exact ⟨rfl, HB.out⟩
      · have c3 : 2 < n := by omega
        clear c2
        by_cases c4 : n ≤ 4
        · have hz := classZ_4 c3 c4
          go_wp2_with (first | (go_at_call 9; refine (classOfS_any _ _).mono ?_; rintro e w' ⟨rfl, rfl⟩) | (go_at_call 10; refine (classOf_any _ _).mono ?_; rintro e w' ⟨rfl, rfl⟩))
          go_ret
          exact ⟨rfl, HB.out⟩
        · have c5 : 4 < n := by omega
          clear c4
          have hz := classZ_8 c5 c8
          go_wp2_with (first | (go_at_call 9; refine (classOfS_any _ _).mono ?_; rintro e w' ⟨rfl, rfl⟩) | (go_at_call 10; refine (classOf_any _ _).mono ?_; rintro e w' ⟨rfl, rfl⟩))
          go_ret
          exact ⟨rfl, HB.out⟩
  · go_enter Try.func7, Try.ntmps7
    go_wp2
    go_ret
    exact ⟨rfl, Below.refl _ _⟩
end
end Go.Proofs.Ytcldcgnfeegaeaa
