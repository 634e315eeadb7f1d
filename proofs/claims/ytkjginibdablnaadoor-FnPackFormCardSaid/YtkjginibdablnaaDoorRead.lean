/- The reader of a code, and what each drawing of a number gives: a number below the bound; of the memory that was there only the reader's own place is turned. -/
import Derived.Test.YtkjginibdablnaaDoorClass
import Derived.Deep.QuietTactic
import Derived.BigQuiet
import Derived.Laws.BitsAllLaws
import Derived.Laws.BitsLemmas
import Derived.IntWalk
import Derived.OpenShut
namespace Go.Proofs.YtkjginibdablnaaDoor
open Go.RowKit

/-- what is told of a slice of bytes that came in -/
def Code (w : World) (a : Option Addr) (len cap : Nat) (zs : List Int) : Prop :=
  (a = none ∧ len = 0 ∧ cap = 0 ∧ zs = []) ∨
  ∃ x, a = some x ∧ len ≤ cap ∧ cap ≤ maxLen ∧ zs.length = cap ∧ (∀ i, i < zs.length → w.cell? (x.add i) = some (.int .u8 (zs.getD i 0))) ∧ ∀ n ∈ zs, (Lit.int .u8 n).wf = true

/-- the reader in block r: at most K numbers have been drawn -/
def Rd (w : World) (r K : Nat) : Prop :=
  ∃ (A : Option Addr) (n c k : Nat), k ≤ K ∧ n ≤ 2000 ∧ w.heap[r]? = some (.cells #[.slice A n c, .int .i64 (k : Int)] 94 (0, 0)) ∧
    (0 < n → ∃ b off, A = some ⟨b, off, none⟩ ∧ b < r ∧ ∀ j, j < n → ∃ x : Nat, x ≤ 255 ∧ w.cell? ⟨b, off + j, none⟩ = some (.int .u8 (x : Int)))

theorem Rd.lt {w : World} {r K : Nat} (h : Rd w r K) : r < w.heap.size := by
  obtain ⟨A, n, c, k, _, _, hb, _⟩ := h
  rcases Nat.lt_or_ge r w.heap.size with hlt | hge
  · exact hlt
  · rw [Array.getElem?_eq_none hge] at hb; cases hb
theorem Rd.more {w : World} {r K K' : Nat} (h : Rd w r K) (hK : K ≤ K') : Rd w r K' := by
  obtain ⟨A, n, c, k, h1, h2⟩ := h
  exact ⟨A, n, c, k, by omega, h2⟩
theorem Rd.grown {w w' : World} {r K : Nat} {row : Option Nat} (h : Rd w r K) (hg : w.grownBy w' row) (hne : ∀ k, row = some k → r < k) : Rd w' r K := by
  have hlt := h.lt
  obtain ⟨A, n, c, k, h1, h2, h3, h4⟩ := h
  refine ⟨A, n, c, k, h1, h2, (hg.block r hlt (fun e => by have := hne r e.symm; omega)).trans h3, fun hn => ?_⟩
  obtain ⟨b, off, hA, hbr, hc⟩ := h4 hn
  refine ⟨b, off, hA, hbr, fun j hj => ?_⟩
  obtain ⟨x, hx, hcell⟩ := hc j hj
  exact ⟨x, hx, (World.cell?_of_block (a := ⟨b, off + j, none⟩) (hg.block b (by omega) (fun e => by have := hne b e.symm; omega))).trans hcell⟩
theorem Rd.below {w w' : World} {r K B : Nat} (h : Rd w r K) (hb : Below B w w') (hr : r < B) : Rd w' r K := by
  obtain ⟨A, n, c, k, h1, h2, h3, h4⟩ := h
  refine ⟨A, n, c, k, h1, h2, (hb.block r hr).trans h3, fun hn => ?_⟩
  obtain ⟨b, off, hA, hbr, hc⟩ := h4 hn
  exact ⟨b, off, hA, hbr, fun j hj => by
    obtain ⟨x, hx, hcell⟩ := hc j hj
    exact ⟨x, hx, (hb.cell (p := ⟨b, off + j, none⟩) (by show b < B; omega)).trans hcell⟩⟩
theorem Rd.set_ {w : World} {r K : Nat} {A : Option Addr} {n c k k' : Nat} (hb : w.heap[r]? = some (.cells #[.slice A n c, .int .i64 (k : Int)] 94 (0, 0))) (hk : k' ≤ K) (hn : n ≤ 2000)
    (h4 : 0 < n → ∃ b off, A = some ⟨b, off, none⟩ ∧ b < r ∧ ∀ j, j < n → ∃ x : Nat, x ≤ 255 ∧ w.cell? ⟨b, off + j, none⟩ = some (.int .u8 (x : Int))) :
    Rd (w.setCell ⟨r, 1, none⟩ (.int .i64 (k' : Int))) r K := by
  refine ⟨A, n, c, k', hk, hn, by simp [World.setCell, Array.getElem?_modify, hb], fun hn0 => ?_⟩
  obtain ⟨b, off, hA, hbr, hc⟩ := h4 hn0
  refine ⟨b, off, hA, hbr, fun j hj => ?_⟩
  obtain ⟨x, hx, hcell⟩ := hc j hj
  exact ⟨x, hx, (World.cell?_setCell_other w ⟨r, 1, none⟩ ⟨b, off + j, none⟩ _ (fun e => by injection e; omega)).trans hcell⟩
theorem grown_setCell (w : World) (r i : Nat) (u : Value) : w.grownBy (w.setCell ⟨r, i, none⟩ u) (some r) :=
  ⟨rfl, rfl, rfl, by simp [World.setCell], fun k _ hne => Below.heap_setCell w ⟨r, i, none⟩ u k (fun e => hne (by rw [e]))⟩
theorem grown_drewN {w w' : World} {row : Option Nat} (h : w.grownBy w' row) (n : Nat) : w.grownBy (w'.drewN n) row := ⟨h.os, h.tape, h.output, h.size, h.block⟩
theorem Rd.drewN {w : World} {r K : Nat} (h : Rd w r K) (n : Nat) : Rd (w.drewN n) r K := h

def Picked (w : World) (r K : Nat) (n : Int) (e : Ending) (w' : World) : Prop :=
  ∃ x : Nat, e = .returned (.int .i64 (x : Int)) ∧ (1 ≤ n → (x : Int) < n) ∧ (n < 1 → x = 0) ∧ Rd w' r (K + 1) ∧ w.grownBy w' (some r)

theorem ofInt_i64 (a : Nat) (ha : a < 9223372036854775808) : (BitVec.ofInt 64 (a : Int)).toNat = a := by
  rw [BitVec.ofInt_natCast, BitVec.toNat_ofNat]; exact Nat.mod_eq_of_lt (by omega)
theorem i64_xor_nat (a b : Nat) (ha : a < 9223372036854775808) (hb : b < 9223372036854775808) : bits .xor .i64 (a : Int) (b : Int) = ((a ^^^ b : Nat) : Int) := by
  have hx : a ^^^ b < 2 ^ 63 := Nat.xor_lt_two_pow (by omega) (by omega)
  show IntKind.i64.wrap ((BitVec.ofInt 64 (a : Int) ^^^ BitVec.ofInt 64 (b : Int)).toNat : Int) = _
  rw [BitVec.toNat_xor, ofInt_i64 a ha, ofInt_i64 b hb, IntKind.wrap_i64]
  omega

section
set_option maxHeartbeats 800000
theorem pick_small (n : Int) (w : World) (r K : Nat) (h : Rd w r K) (hK : K ≤ 100000) (hn : n < 1) :
    Calls Tryd.prog 43 #[.pointer (some ⟨r, 0, none⟩), .int .i64 n] w (Picked w r K n) := by
  have hlt := h.lt
  obtain ⟨A, m, c, k, hkK, hm, hb, hbytes⟩ := h
  have c0 := cell_of_row w r 0 _ _ _ hb
  have c1 := cell_of_row w r 1 _ _ _ hb
  have f1 : w.frozen? ⟨r, 1, none⟩ = false := by simp [World.frozen?, hb]
  simp at c0 c1
  have HB := Lib.hid hb
  have HBY := Lib.hid hbytes
  clear hb hbytes
  go_enter Tryd.func43, Tryd.ntmps43
  go_wp2
  go_ret
  exact ⟨0, rfl, by omega, fun _ => rfl, by simpa using Rd.set_ (k' := k + 1) HB.out (by omega) hm HBY.out, grown_setCell _ _ _ _⟩
theorem pick_none (n : Int) (w : World) (r K c k : Nat) (A : Option Addr) (hk : k ≤ K) (hK : K ≤ 100000) (hn : 1 ≤ n)
    (hb : w.heap[r]? = some (.cells #[.slice A 0 c, .int .i64 (k : Int)] 94 (0, 0))) :
    Calls Tryd.prog 43 #[.pointer (some ⟨r, 0, none⟩), .int .i64 n] w (Picked w r K n) := by
  have c0 := cell_of_row w r 0 _ _ _ hb
  have c1 := cell_of_row w r 1 _ _ _ hb
  have f1 : w.frozen? ⟨r, 1, none⟩ = false := by simp [World.frozen?, hb]
  simp at c0 c1
  have HB := Lib.hid hb
  clear hb
  go_enter Tryd.func43, Tryd.ntmps43
  go_wp2
  go_ret
  exact ⟨0, rfl, by omega, fun _ => rfl, by simpa using Rd.set_ (k' := k + 1) HB.out (by omega) (by omega) (by omega), grown_setCell _ _ _ _⟩
theorem pick_read (n : Int) (w : World) (r K c k m b off x : Nat) (hk : k ≤ K) (hK : K ≤ 100000) (hn : 1 ≤ n) (hm : m ≤ 2000) (hkm : k < m) (hbr : b < r) (hx : x ≤ 255)
    (hb : w.heap[r]? = some (.cells #[.slice (some ⟨b, off, none⟩) m c, .int .i64 (k : Int)] 94 (0, 0)))
    (hc : w.cell? ⟨b, off + k, none⟩ = some (.int .u8 (x : Int)))
    (hbytes : 0 < m → ∃ b' off', some (⟨b, off, none⟩ : Addr) = some ⟨b', off', none⟩ ∧ b' < r ∧ ∀ j, j < m → ∃ x : Nat, x ≤ 255 ∧ w.cell? ⟨b', off' + j, none⟩ = some (.int .u8 (x : Int))) :
    Calls Tryd.prog 43 #[.pointer (some ⟨r, 0, none⟩), .int .i64 n] w (Picked w r K n) := by
  have c0 := cell_of_row w r 0 _ _ _ hb
  have c1 := cell_of_row w r 1 _ _ _ hb
  have f1 : w.frozen? ⟨r, 1, none⟩ = false := by simp [World.frozen?, hb]
  simp at c0 c1
  have HB := Lib.hid hb
  have HBY := Lib.hid hbytes
  have hc' : (w.setCell ⟨r, 1, none⟩ (.int .i64 ((k : Int) + 1))).cell? ⟨b, off + k, none⟩ = some (.int .u8 (x : Int)) :=
    (World.cell?_setCell_other w ⟨r, 1, none⟩ ⟨b, off + k, none⟩ _ (fun e => by injection e; omega)).trans hc
  clear hb hc hbytes
  have hn0 : ((m : Int) == 0) = false := by simp; omega
  go_enter Tryd.func43, Tryd.ntmps43
  go_wp2
  go_ret
  have e : (x : Int) % n = ((x % n.toNat : Nat) : Int) := by rw [Int.natCast_emod, Int.toNat_of_nonneg (by omega)]
  have e2 : ((x % n.toNat : Nat) : Int) < n := by rw [← e]; exact Int.emod_lt_of_pos _ (by omega)
  exact ⟨x % n.toNat, ret_int e, fun _ => e2, by omega, by simpa using Rd.set_ (k' := k + 1) HB.out (by omega) hm HBY.out, grown_setCell _ _ _ _⟩
theorem pick_far (n : Int) (w : World) (r K c k m b off x y : Nat) (hk : k ≤ K) (hK : K ≤ 100000) (hn : 1 ≤ n) (hm : m ≤ 2000) (hkm : m ≤ k) (hm0 : 1 ≤ m) (hbr : b < r) (hx : x ≤ 255) (hy : y ≤ 255)
    (hb : w.heap[r]? = some (.cells #[.slice (some ⟨b, off, none⟩) m c, .int .i64 (k : Int)] 94 (0, 0)))
    (hc : w.cell? ⟨b, off + k % m, none⟩ = some (.int .u8 (x : Int))) (hd : w.cell? ⟨b, off + (k * 7 + 3) % m, none⟩ = some (.int .u8 (y : Int)))
    (hbytes : 0 < m → ∃ b' off', some (⟨b, off, none⟩ : Addr) = some ⟨b', off', none⟩ ∧ b' < r ∧ ∀ j, j < m → ∃ x : Nat, x ≤ 255 ∧ w.cell? ⟨b', off' + j, none⟩ = some (.int .u8 (x : Int))) :
    Calls Tryd.prog 43 #[.pointer (some ⟨r, 0, none⟩), .int .i64 n] w (Picked w r K n) := by
  have c0 := cell_of_row w r 0 _ _ _ hb
  have c1 := cell_of_row w r 1 _ _ _ hb
  have f1 : w.frozen? ⟨r, 1, none⟩ = false := by simp [World.frozen?, hb]
  simp at c0 c1
  have HB := Lib.hid hb
  have HBY := Lib.hid hbytes
  have hq : k % m < m := Nat.mod_lt _ (by omega)
  have hq2 : (k * 7 + 3) % m < m := Nat.mod_lt _ (by omega)
  have hc' : (w.setCell ⟨r, 1, none⟩ (.int .i64 ((k : Int) + 1))).cell? ⟨b, off + k % m, none⟩ = some (.int .u8 (x : Int)) :=
    (World.cell?_setCell_other w ⟨r, 1, none⟩ ⟨b, off + k % m, none⟩ _ (fun e => by injection e; omega)).trans hc
  have hd' : (w.setCell ⟨r, 1, none⟩ (.int .i64 ((k : Int) + 1))).cell? ⟨b, off + (k * 7 + 3) % m, none⟩ = some (.int .u8 (y : Int)) :=
    (World.cell?_setCell_other w ⟨r, 1, none⟩ ⟨b, off + (k * 7 + 3) % m, none⟩ _ (fun e => by injection e; omega)).trans hd
  clear hb hc hd hbytes
  have hn0 : ((m : Int) == 0) = false := by simp; omega
  have hz : ¬ ((m : Int) = 0) := by omega
  obtain ⟨q, hqe⟩ : ∃ q, k % m = q := ⟨_, rfl⟩
  obtain ⟨p, hpe⟩ : ∃ p, (k * 7 + 3) % m = p := ⟨_, rfl⟩
  obtain ⟨d, hde⟩ : ∃ d, k / m = d := ⟨_, rfl⟩
  have hdk : d ≤ k := by rw [← hde]; exact Nat.div_le_self _ _
  obtain ⟨S, hS⟩ : ∃ S : Nat, S = x * 131 + y * 1117 + k * 29 + d * 53 := ⟨_, rfl⟩
  obtain ⟨X, hX⟩ : ∃ X : Nat, X = S ^^^ (S / 64) := ⟨_, rfl⟩
  have eX : bits .xor .i64 (S : Int) ((S : Int) / 64) = (X : Int) := by
    have := i64_xor_nat S (S / 64) (by omega) (by omega)
    rw [hX, ← this]; rfl
  rw [hqe] at hc' hq
  rw [hpe] at hd' hq2
  have e0 : (k : Int).tmod (m : Int) = (q : Int) := by rw [← hqe]; rfl
  have e1 : ((k : Int) * 7 + 3).tmod (m : Int) = (p : Int) := by rw [← hpe]; rfl
  have e2 : IntKind.i64.wrap ((k : Int).tdiv (m : Int)) = (d : Int) := by
    rw [IntWalk.i64_quo _ _ (by omega), ← hde]; rfl
  have e14 : IntKind.i64.wrap ((k : Int) / (m : Int)) = (d : Int) := by
    rw [← hde, IntWalk.i64_in]; · rfl
    · have : (k : Int) / (m : Int) = ((k / m : Nat) : Int) := rfl
      rw [this, hde]; omega
  have e3 : IntKind.i64.wrap ((k : Int) * 7) = (k : Int) * 7 := IntWalk.i64_in _ (by omega)
  have e4 : IntKind.i64.wrap ((k : Int) * 7 + 3) = (k : Int) * 7 + 3 := IntWalk.i64_in _ (by omega)
  have e5 : IntKind.i64.wrap (x : Int) = (x : Int) := IntWalk.i64_in _ (by omega)
  have e6 : IntKind.i64.wrap (y : Int) = (y : Int) := IntWalk.i64_in _ (by omega)
  have e7 : IntKind.i64.wrap ((x : Int) * 131) = (x : Int) * 131 := IntWalk.i64_in _ (by omega)
  have e8 : IntKind.i64.wrap ((y : Int) * 1117) = (y : Int) * 1117 := IntWalk.i64_in _ (by omega)
  have e9 : IntKind.i64.wrap ((x : Int) * 131 + (y : Int) * 1117) = (x : Int) * 131 + (y : Int) * 1117 := IntWalk.i64_in _ (by omega)
  have e10 : IntKind.i64.wrap ((k : Int) * 29) = (k : Int) * 29 := IntWalk.i64_in _ (by omega)
  have e11 : IntKind.i64.wrap ((x : Int) * 131 + (y : Int) * 1117 + (k : Int) * 29) = (x : Int) * 131 + (y : Int) * 1117 + (k : Int) * 29 := IntWalk.i64_in _ (by omega)
  have e12 : IntKind.i64.wrap ((d : Int) * 53) = (d : Int) * 53 := IntWalk.i64_in _ (by omega)
  have e13 : IntKind.i64.wrap ((x : Int) * 131 + (y : Int) * 1117 + (k : Int) * 29 + (d : Int) * 53) = (S : Int) := by rw [IntWalk.i64_in _ (by omega)]; omega
  have hS2 : S ≤ 100000000 := by omega
  clear hS hX hqe hpe hde
  have g1 : (q : Int) < (m : Int) := by omega
  have g2 : (p : Int) < (m : Int) := by omega
  go_enter Tryd.func43, Tryd.ntmps43
  go_wp2
  go_quiet (fail)
  clear e0 e1 e2 e3 e4 e5 e6 e7 e8 e9 e10 e11 e12 e13 e14
  go_wp2
  go_ret
  have e : (X : Int) % n = ((X % n.toNat : Nat) : Int) := by rw [Int.natCast_emod, Int.toNat_of_nonneg (by omega)]
  have e2 : ((X % n.toNat : Nat) : Int) < n := by rw [← e]; exact Int.emod_lt_of_pos _ (by omega)
  exact ⟨X % n.toNat, ret_int e, fun _ => e2, by omega, by simpa using Rd.drewN (Rd.set_ (k' := k + 1) HB.out (by omega) hm HBY.out) _, grown_drewN (grown_setCell _ _ _ _) _⟩
theorem pick_any (n : Int) (w : World) (r K : Nat) (h : Rd w r K) (hK : K ≤ 100000) (_ : n ≤ 1000000) :
    Calls Tryd.prog 43 #[.pointer (some ⟨r, 0, none⟩), .int .i64 n] w (Picked w r K n) := by
  by_cases hn : n < 1
  · exact pick_small n w r K h hK hn
  · have hh := h
    obtain ⟨A, m, c, k, hk, hm, hb, hbytes⟩ := hh
    rcases Nat.eq_zero_or_pos m with h0 | h0
    · subst h0
      exact pick_none n w r K c k A hk hK (by omega) hb
    · have hby := hbytes
      obtain ⟨b, off, rfl, hbr, hc⟩ := hbytes h0
      by_cases hkm : k < m
      · obtain ⟨x, hx, hcell⟩ := hc k hkm
        exact pick_read n w r K c k m b off x hk hK (by omega) hm hkm hbr hx hb hcell hby
      · obtain ⟨x, hx, hcell⟩ := hc (k % m) (Nat.mod_lt _ h0)
        obtain ⟨y, hy, hcell2⟩ := hc ((k * 7 + 3) % m) (Nat.mod_lt _ h0)
        exact pick_far n w r K c k m b off x y hk hK (by omega) hm (by omega) h0 hbr hx hy hb hcell hcell2 hby

/-- a reader has been laid in a new block -/
def Opened (w : World) (e : Ending) (w' : World) : Prop := e = .returned (.pointer (some ⟨w.heap.size, 0, none⟩)) ∧ Rd w' w.heap.size 0 ∧ Below w.heap.size w w'
theorem opened_of (w : World) (A : Option Addr) (n c : Nat) (hn : n ≤ 2000) (h : 0 < n → ∃ b off, A = some ⟨b, off, none⟩ ∧ ∀ j, j < n → ∃ x : Nat, x ≤ 255 ∧ w.cell? ⟨b, off + j, none⟩ = some (.int .u8 (x : Int))) :
    Opened w (.returned (.pointer (some ⟨w.heap.size, 0, none⟩))) (w.alloc (.cells #[.slice A n c, .int .i64 0] 94)) := by
  refine ⟨rfl, ⟨A, n, c, 0, by omega, hn, heap_alloc_new w _, fun h0 => ?_⟩, (Below.refl _ _).alloc (Nat.le_refl _) _⟩
  obtain ⟨b, off, hA, hc⟩ := h h0
  obtain ⟨x0, _, h0c⟩ := hc 0 h0
  have hb : b < w.heap.size := World.block_lt_of_cell? w ⟨b, off + 0, none⟩ h0c
  refine ⟨b, off, hA, hb, fun j hj => ?_⟩
  obtain ⟨x, hx, hcell⟩ := hc j hj
  exact ⟨x, hx, (World.cell?_alloc_lt w _ ⟨b, off + j, none⟩ hb).trans hcell⟩
theorem code_cells {w : World} {a : Option Addr} {len cap : Nat} {zs : List Int} (h : Code w a len cap zs) (n : Nat) (hn : n ≤ len) :
    0 < n → ∃ b off, a = some ⟨b, off, none⟩ ∧ ∀ j, j < n → ∃ x : Nat, x ≤ 255 ∧ w.cell? ⟨b, off + j, none⟩ = some (.int .u8 (x : Int)) := by
  intro h0
  rcases h with ⟨_, hl, _, _⟩ | ⟨⟨b, off, spot⟩, ha, hlc, _, hz, hc, hw⟩
  · omega
  · have h1 := hc 0 (by omega)
    have hspot : spot = none := by simpa [Addr.add] using World.cell?_spot h1
    subst hspot
    refine ⟨b, off, ha, fun j hj => ?_⟩
    have hj' : j < zs.length := by omega
    have hcj := hc j hj'
    have hm : zs.getD j 0 ∈ zs := by rw [List.getD_eq_getElem?_getD, List.getElem?_eq_getElem hj']; exact List.getElem_mem _
    have hwf := hw _ hm
    have hb := bounds_u8 hwf
    refine ⟨(zs.getD j 0).toNat, by omega, ?_⟩
    have hadd : (⟨b, off, none⟩ : Addr).add j = ⟨b, off + j, none⟩ := by
      unfold Addr.add; by_cases h : j = 0 <;> simp [h]
    rw [← hadd, hcj, Int.toNat_of_nonneg hb.1]
theorem open_any (a : Option Addr) (len cap : Nat) (zs : List Int) (w : World) (h : Code w a len cap zs) : Calls Tryd.prog 42 #[.slice a len cap] w (Opened w) := by
  by_cases hl : len ≤ 2000
  · have HC := Lib.hid (opened_of w a len cap hl (code_cells h len (Nat.le_refl _)))
    clear h
    go_enter Tryd.func42, Tryd.ntmps42
    go_wp2
    go_ret
    exact HC.out
  · have HC := Lib.hid (opened_of w a 2000 cap (Nat.le_refl _) (code_cells h 2000 (by omega)))
    rcases h with ⟨_, h0, _, _⟩ | ⟨x, rfl, hlc, hcm, _⟩
    · omega
    · unfold maxLen at hcm
      go_enter Tryd.func42, Tryd.ntmps42
      go_wp2
      go_ret
      exact HC.out
end
end Go.Proofs.YtkjginibdablnaaDoor
