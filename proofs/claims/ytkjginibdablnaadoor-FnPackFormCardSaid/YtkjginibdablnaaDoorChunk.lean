/- The chunk of an item; whether a pack is one. -/
import Derived.Test.YtkjginibdablnaaDoorPackS
import Derived.Test.YtkjginibdablnaaDoorName
namespace Go.Proofs.YtkjginibdablnaaDoor
open Go.RowKit
def chunkB (key : Int) (x : Itm) : Bool := backOk x.2.data.toList && nameIsB key (backT x.2.data.toList) x.1
def chunkT (key : Int) (x : Itm) : ByteArray := if chunkB key x = true then ⟨(backT x.2.data.toList).toArray⟩ else ByteArray.empty
theorem chunk_is (key : Int) (x : Itm) : chunkB key x = (keyB key && rightB key.toNat x) := by
  unfold chunkB rightB nameIsB
  cases hb : backOk x.2.data.toList with
  | false => simp
  | true =>
    have hp := backOk_piece hb
    cases hk : keyB key with
    | false => simp
    | true => simp [hp, nameZ_ok hk hp]
section
set_option maxHeartbeats 1600000
theorem chunk_any (key a : Int) (b : ByteArray) (w : World) (a0 a1 : Addr) (h : Errs w a0 a1) (hs : b.size ≤ maxLen) :
    Calls Tryd.prog 35 #[.agg #[.int .i64 a, .string b], .int .i64 key] w fun e w' => e = .returned (.tuple #[.string (chunkT key (a, b)), .bool (chunkB key (a, b))]) ∧ Below w.heap.size w w' := by
  obtain ⟨W, hW⟩ : ∃ W, W = w.alloc (.cells #[.int .i64 a, .string b] 40) := ⟨_, rfl⟩
  have hWs : W.heap.size = w.heap.size + 1 := by rw [hW]; simp
  have HBW := Lib.hid (show Below w.heap.size w W by rw [hW]; exact (Below.refl _ _).alloc (Nat.le_refl _) _)
  have HBX := Lib.hid (show ∀ X, Below W.heap.size W X → X.cell? ⟨w.heap.size, 0, none⟩ = some (.int .i64 a) ∧ X.cell? ⟨w.heap.size, 1, none⟩ = some (.string b) from fun X hX => box_cellsI w X _ _ 40 (by rw [← hW, ← hWs]; exact hX))
  obtain ⟨q1, q2⟩ := HBX.out W (Below.refl _ _)
  have HP := Lib.hid (padBack_any b W hs)
  have HE := Lib.hid (h.below HBW.out)
  obtain ⟨t, ht⟩ : ∃ t : ByteArray, t = ⟨(backT b.data.toList).toArray⟩ := ⟨_, rfl⟩
  have HT := Lib.hid ht
  have HTL := Lib.hid (show t.data.toList = backT b.data.toList by rw [ht])
  have HTS := Lib.hid (show t.size ≤ maxLen by
    rw [← size_int, HTL.out]
    unfold backT
    have h1 := trimL_size b.data.toList
    have h2 := size_int b
    split
    · omega
    · simp)
  have HCB := Lib.hid (show chunkB key (a, b) = (backOk b.data.toList && nameIsB key (backT b.data.toList) a) from rfl)
  have HCT := Lib.hid (show chunkT key (a, b) = if chunkB key (a, b) = true then ⟨(backT b.data.toList).toArray⟩ else ByteArray.empty from rfl)
  obtain ⟨o, ho⟩ : ∃ o, backOk b.data.toList = o := ⟨_, rfl⟩
  unfold Back at HP
  rw [ho] at HCB HP
  have HW := Lib.hid hW
  clear ht ho h hs hW hWs
  cases o with
  | false =>
    have HF := Lib.hid (show chunkB key (a, b) = false by rw [HCB.out]; rfl)
    go_enter Tryd.func35, Tryd.ntmps35
    go_wp2_with fail
    rw [← HW.out]
    refine HP.out.mono ?_
    rintro e w' ⟨rfl, hb⟩
    rw [← HT.out]
    have HB := Lib.hid (bel2 HBW.out hb)
    clear hb
    go_wp2
    go_ret2
    exact ⟨by rw [HCT.out, HF.out]; rfl, HB.out⟩
  | true =>
    obtain ⟨p, hp⟩ : ∃ p, nameIsB key (backT b.data.toList) a = p := ⟨_, rfl⟩
    have HF := Lib.hid (show chunkB key (a, b) = p by rw [HCB.out, hp]; rfl)
    have HNI := Lib.hid (fun (X : World) (hX : Below W.heap.size W X) => nameIs_any key t a X a0 a1 (HE.out.below hX) HTS.out)
    rw [HTL.out, hp] at HNI
    clear hp
    go_enter Tryd.func35, Tryd.ntmps35
    go_wp2_with fail
    rw [← HW.out]
    refine HP.out.mono ?_
    rintro e w1 ⟨rfl, hb⟩
    rw [← HT.out]
    have HB := Lib.hid (bel2 HBW.out hb)
    have HBb := Lib.hid hb
    obtain ⟨r1, r2⟩ := HBX.out w1 hb
    clear hb q1 q2
    cases p with
    | false =>
      go_wp2_with fail
      refine (HNI.out w1 HBb.out).mono ?_
      rintro e w' ⟨rfl, m, rfl⟩
      go_wp2
      go_ret2
      exact ⟨by rw [HCT.out, HF.out]; rfl, below_drewN HB.out m⟩
    | true =>
      go_wp2_with fail
      refine (HNI.out w1 HBb.out).mono ?_
      rintro e w' ⟨rfl, m, rfl⟩
      go_wp2
      go_ret2
      exact ⟨by rw [HCT.out, HF.out, HT.out]; rfl, below_drewN HB.out m⟩
end
end Go.Proofs.YtkjginibdablnaaDoor
