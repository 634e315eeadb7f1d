/- The reference's list of the ends of all pieces of a text, and its list of the pieces: each in new memory. -/
import Derived.Test.YtkjginibdablnaaDoorCutPlain2
import Derived.Test.YtkjginibdablnaaDoorCut
import Derived.Maps.AppendAt
namespace Go.Proofs.YtkjginibdablnaaDoor
open Go.RowKit

/-- numbers as values -/
def natVals (l : List Nat) : List Value := l.map fun n : Nat => Value.int .i64 (n : Int)
theorem natVals_snoc (l : List Nat) (n : Nat) : natVals (l ++ [n]) = natVals l ++ [.int .i64 (n : Int)] := by simp [natVals]
theorem natVals_length (l : List Nat) : (natVals l).length = l.length := by simp [natVals]
theorem natVals_get (l : List Nat) (i : Nat) (n : Nat) (h : l[i]? = some n) : (natVals l)[i]? = some (.int .i64 (n : Int)) := by simp [natVals, h]
/-- a slice of numbers in memory that is new since B -/
def OwnNats (B : Nat) (w : World) (v : Value) (l : List Nat) : Prop := w.ownsRow B 3 1 v l.length (natVals l)
/-- strings as values -/
def strVals (l : List (List UInt8)) : List Value := l.map fun p => Value.string ⟨p.toArray⟩
theorem strVals_snoc (l : List (List UInt8)) (p : List UInt8) : strVals (l ++ [p]) = strVals l ++ [.string ⟨p.toArray⟩] := by simp [strVals]
theorem strVals_length (l : List (List UInt8)) : (strVals l).length = l.length := by simp [strVals]
theorem strVals_get (l : List (List UInt8)) (i : Nat) (p : List UInt8) (h : l[i]? = some p) : (strVals l)[i]? = some (.string ⟨p.toArray⟩) := by simp [strVals, h]
theorem extract_str (s : ByteArray) (a b : Nat) : s.extract a b = ⟨((s.data.toList.drop a).take (b - a)).toArray⟩ := by
  apply ByteArray.ext
  apply Array.toList_inj.1
  simp [ByteArray.data_extract]
/-- a slice of strings in memory that is new since B -/
def OwnStrs (B : Nat) (w : World) (v : Value) (l : List (List UInt8)) : Prop := w.ownsRow B 9 1 v l.length (strVals l)
theorem own_form {w : World} {base : Nat} {e : TypeId} {size n : Nat} {v : Value} {xs : List Value} (h : w.ownsRow base e size v n xs) (hn : 0 < n) :
    ∃ g cap, v = .slice (some ⟨g, 0, none⟩) n cap ∧ base ≤ g ∧ g < w.heap.size := by
  rcases h.2 with ⟨_, h0⟩ | ⟨g, cap, cur, rfl, hb, hh, _⟩
  · omega
  · refine ⟨g, cap, rfl, hb, ?_⟩
    rcases Nat.lt_or_ge g w.heap.size with hlt | hge
    · exact hlt
    · rw [Array.getElem?_eq_none hge] at hh; cases hh
theorem own_cell {w : World} {base g n cap : Nat} {e : TypeId} {xs : List Value} (h : w.ownsRow base e 1 (.slice (some ⟨g, 0, none⟩) n cap) n xs) {k : Nat} {u v : Value} (hu : u = v) (hk : xs[k]? = some u) :
    w.cell? ⟨g, k, none⟩ = some v := by
  have ha : (⟨g, 0, none⟩ : Addr).add k = ⟨g, k, none⟩ := by unfold Addr.add; by_cases h : k = 0 <;> simp [h]
  rw [← ha, ← hu]; exact h.cells (g := g) rfl k u hk
theorem ownStrs_snoc {B : Nat} {w : World} {v : Value} {l : List (List UInt8)} {p : List UInt8} {x : ByteArray} (hx : x = ⟨p.toArray⟩) (h : w.ownsRow B 9 1 v (l.length + 1) (strVals l ++ [.string x])) : OwnStrs B w v (l ++ [p]) := by
  subst hx; unfold OwnStrs; rw [strVals_snoc, List.length_append]; exact h
theorem ownNats_snoc {B : Nat} {w : World} {v : Value} {l : List Nat} {n : Nat} (h : w.ownsRow B 3 1 v (l.length + 1) (natVals l ++ [.int .i64 (n : Int)])) : OwnNats B w v (l ++ [n]) := by
  unfold OwnNats; rw [natVals_snoc, List.length_append]; exact h
theorem own_ne {w : World} {B B' : Nat} {e e' : TypeId} {size size' n n' : Nat} {v v' : Value} {xs xs' : List Value} (hne : e ≠ e') (h : w.ownsRow B e size v n xs) (h' : w.ownsRow B' e' size' v' n' xs') :
    v.ownBlock = none ∨ v.ownBlock ≠ v'.ownBlock := by
  rcases h.2 with ⟨rfl, _⟩ | ⟨g, cap, cur, rfl, _, hh, _⟩
  · exact .inl rfl
  · right
    rcases h'.2 with ⟨rfl, _⟩ | ⟨g', cap', cur', rfl, _, hh', _⟩
    · simp [Value.ownBlock]
    · intro he
      have : g = g' := by simpa [Value.ownBlock] using he
      subst this
      rw [hh] at hh'
      simp at hh'
      exact hne hh'.2
theorem info_string : (Tryd.prog.info? 9).map (fun i => (i.zero, i.size, i.bytes)) = some (some (.string ByteArray.empty), 1, 16) := by kernel_rfl
theorem info_int : (Tryd.prog.info? 3).map (fun i => (i.zero, i.size, i.bytes)) = some (some (.int .i64 0), 1, 8) := by kernel_rfl
theorem own_alloc {w : World} {base e size n : Nat} {v : Value} {xs : List Value} (h : w.ownsRow base e size v n xs) (o : Obj) : (w.alloc o).ownsRow base e size v n xs := h.alloc o
theorem own_drewN {w : World} {base e size n : Nat} {v : Value} {xs : List Value} (h : w.ownsRow base e size v n xs) (k : Nat) : (w.drewN k).ownsRow base e size v n xs := h
/-- an append's step: what lay below B lies as it lay -/
theorem below_append {B : Nat} {w wr w1 : World} {e : TypeId} {size n : Nat} {v : Value} {xs : List Value} (hb : Below B w wr) (ho : wr.ownsRow B e size v n xs) (k : Nat) (o : Obj)
    (hg : ((wr.drewN k).alloc o).grownBy w1 v.ownBlock) (hw : B ≤ wr.heap.size) : Below B w w1 :=
  ((below_drewN hb k).alloc hw o).grown hg (by simp; omega) (fun j hj => (ho.lt j hj).1)
theorem endsAt_len40 {l : List UInt8} (h : l.length ≤ 40) (fr : Nat) : (endsAt l fr).length ≤ 40 := by
  have := (endsAt_length (l := l) fr).1; omega

/-- a slice of numbers stays as it is where a slice of strings is appended to -/
theorem nats_kept {w w2 : World} {B B' n : Nat} {v0 v : Value} {l : List Nat} {xs : List Value} (o : Obj) (hN : OwnNats B w v0 l) (hO : w.ownsRow B' 9 1 v n xs) (hg : (w.alloc o).grownBy w2 v.ownBlock) : OwnNats B w2 v0 l :=
  World.ownsRow.kept (own_alloc hN o) hg (own_ne (show (3 : TypeId) ≠ 9 by decide) (own_alloc hN o) (own_alloc hO o))
theorem nats_cell {w : World} {B g n cap k x : Nat} {l : List Nat} (h : OwnNats B w (.slice (some ⟨g, 0, none⟩) n cap) l) (hn : n = l.length) (hk : l[k]? = some x) : w.cell? ⟨g, k, none⟩ = some (.int .i64 (x : Int)) := by
  subst hn; exact own_cell h rfl (natVals_get _ _ _ hk)
section
set_option maxHeartbeats 800000
end
end Go.Proofs.YtkjginibdablnaaDoor
