/-
  Texts that the statements' proofs rest on, one behind another: ApartW.
-/
import Derived.Test.YtcndknkdhlmdnaaGreatDoorM30
import Derived.Test.YtcndknkdhlmdnaaGreatDoorM07

/-
  usancelaw09.ShowApart, walked.
-/
namespace Go.Proofs.YtcndknkdhlmdnaaGreatDoor
open Go.RowKit
set_option maxRecDepth 100000

set_option maxHeartbeats 4000000 in
theorem apart_true (t : Nd) (a : Option Addr) (cap : Nat) (u : Nd) (a2 : Option Addr) (cap2 : Nat) (w : World) (ht : t.hold w.heap.size w a cap) (st : shortN t) (hu : u.hold w.heap.size w a2 cap2) (su : shortN u) (he : Env w) (hta : Tab w) :
    Calls Tryz.prog 6 #[.agg #[.int .i64 t.kind, .string t.text, .int .i64 t.n, .slice a t.kids.length cap, .int .i64 t.place], .agg #[.int .i64 u.kind, .string u.text, .int .i64 u.n, .slice a2 u.kids.length cap2, .int .i64 u.place]] w fun e W' => e = .returned (.bool true) ∧ Below w.heap.size w W' := by
  obtain ⟨W1, hW1⟩ : ∃ W, W = ((w.alloc (.cells #[.int .i64 t.kind, .string t.text, .int .i64 t.n, .slice a t.kids.length cap, .int .i64 t.place] 24)).alloc (.cells #[.int .i64 u.kind, .string u.text, .int .i64 u.n, .slice a2 u.kids.length cap2, .int .i64 u.place] 24)) := ⟨_, rfl⟩
  have hB1 : Below w.heap.size w W1 := hW1 ▸ (nbelow1 w _).trans ((nbelow1 _ _).mono (nbelow1 w _).size)
  have Nt1 : NBox w.heap.size t a cap W1 := hW1 ▸ (NBox.make w t a cap).below (nbelow1 _ _)
  have Nu1 : NBox (w.heap.size + 1) u a2 cap2 W1 := by
    have := NBox.make (w.alloc (.cells #[.int .i64 t.kind, .string t.text, .int .i64 t.n, .slice a t.kids.length cap, .int .i64 t.place] 24)) u a2 cap2
    rw [hW1]
    simpa using this
  have HX := Lib.hid (show ∀ cur, Below W1.heap.size W1 cur → Env cur ∧ Tab cur ∧ w.heap.size ≤ cur.heap.size ∧ (t.hold w.heap.size cur a cap ∧ NBox w.heap.size t a cap cur) ∧ (u.hold w.heap.size cur a2 cap2 ∧ NBox (w.heap.size + 1) u a2 cap2 cur) from fun cur hb => ⟨(he.below hB1).below hb, (hta.below hB1).below hb, Nat.le_trans hB1.size hb.size, ⟨ht.below (hB1.trans (hb.mono hB1.size)), Nt1.below hb⟩, ⟨hu.below (hB1.trans (hb.mono hB1.size)), Nu1.below hb⟩⟩)
  have HB := Lib.hid hB1
  have HSt := Lib.hid st
  have HSu := Lib.hid su
  have HW1 := Lib.hid (Below.refl W1.heap.size W1)
  clear he hta hB1 ht st Nt1 hu su Nu1
  have HF := Lib.hid (apart_forms t u)
  have C := Lib.hid (shown_any _ (HX.out _ HW1.out).1 (HX.out _ HW1.out).2.1)
  go_enter Tryz.func6, Tryz.ntmps6
  go_wp2_with fail
  rw [← hW1]
  clear hW1
  (with_reducible refine Calls.mono C.out ?_)
  rintro e W2 ⟨rfl, hb⟩
  have HW2 := Lib.hid (HW1.out.trans (hb.mono HW1.out.size))
  clear hb C
  have C := Lib.hid (sExpr_any t a cap w.heap.size _ (HX.out _ HW2.out).2.2.2.1.1 HSt.out (HX.out _ HW2.out).2.2.1 (HX.out _ HW2.out).1 (HX.out _ HW2.out).2.1)
  obtain ⟨⟨m00, m01, m02, m03, m04⟩, ⟨m10, m11, m12, m13, m14⟩⟩ := (show (_ ∧ _ ∧ _ ∧ _ ∧ _) ∧ (_ ∧ _ ∧ _ ∧ _ ∧ _) from ⟨((HX.out _ HW2.out).2.2.2.1.2.cells).1, ((HX.out _ HW2.out).2.2.2.2.2.cells).1⟩)
  have hlt : w.heap.size < W2.heap.size ∧ (w.heap.size + 1) < W2.heap.size := ⟨(HX.out _ HW2.out).2.2.2.1.2.lt, (HX.out _ HW2.out).2.2.2.2.2.lt⟩
  go_wp2_with fail
  (with_reducible refine Calls.mono C.out ?_)
  rintro e W3 ⟨rfl, hb⟩
  have HW3 := Lib.hid (HW2.out.trans (hb.mono HW2.out.size))
  clear hb C hlt m00 m01 m02 m03 m04 m10 m11 m12 m13 m14
  have C := Lib.hid (sExpr_any u a2 cap2 w.heap.size _ (HX.out _ HW3.out).2.2.2.2.1 HSu.out (HX.out _ HW3.out).2.2.1 (HX.out _ HW3.out).1 (HX.out _ HW3.out).2.1)
  obtain ⟨⟨m00, m01, m02, m03, m04⟩, ⟨m10, m11, m12, m13, m14⟩⟩ := (show (_ ∧ _ ∧ _ ∧ _ ∧ _) ∧ (_ ∧ _ ∧ _ ∧ _ ∧ _) from ⟨((HX.out _ HW3.out).2.2.2.1.2.cells).1, ((HX.out _ HW3.out).2.2.2.2.2.cells).1⟩)
  have hlt : w.heap.size < W3.heap.size ∧ (w.heap.size + 1) < W3.heap.size := ⟨(HX.out _ HW3.out).2.2.2.1.2.lt, (HX.out _ HW3.out).2.2.2.2.2.lt⟩
  go_wp2_with fail
  (with_reducible refine Calls.mono C.out ?_)
  rintro e W4 ⟨rfl, hb⟩
  have HW4 := Lib.hid (HW3.out.trans (hb.mono HW3.out.size))
  clear hb C hlt m00 m01 m02 m03 m04 m10 m11 m12 m13 m14
  rcases HF.out with ⟨e1, hf⟩ | ⟨e1, e2, hf⟩ | ⟨e1, e2, hf⟩
  · have HE := Lib.hid e1
    have q1 : (exprE t != 0) = true := by rw [e1]; rfl
    have q3 : (exprE t == 90) = true := by rw [e1]; rfl
    clear e1 hf
    go_wp2
    go_ret
    exact ⟨rfl, HB.out.trans (HW4.out.mono HB.out.size)⟩
  · have HE := Lib.hid (show _ ∧ _ from ⟨e1, e2⟩)
    have q1 : (exprE t != 0) = false := by rw [e1]; rfl
    have q2 : (exprE u != 0) = true := by rw [e2]; rfl
    have q3 : (exprE t == 90) = false := by rw [e1]; rfl
    have q4 : (exprE u == 90) = true := by rw [e2]; rfl
    clear e1 hf e2
    go_wp2
    go_ret
    exact ⟨rfl, HB.out.trans (HW4.out.mono HB.out.size)⟩
  · have q1 : (exprE t != 0) = false := by rw [e1]; rfl
    have q2 : (exprE u != 0) = false := by rw [e2]; rfl
    have HQ := Lib.hid hf
    clear e1 e2 hf
    have C := Lib.hid (sSame_any t u a cap a2 cap2 w.heap.size _ (HX.out _ HW4.out).2.2.2.1.1 (HX.out _ HW4.out).2.2.2.2.1 (HX.out _ HW4.out).2.2.1)
    obtain ⟨⟨m00, m01, m02, m03, m04⟩, ⟨m10, m11, m12, m13, m14⟩⟩ := (show (_ ∧ _ ∧ _ ∧ _ ∧ _) ∧ (_ ∧ _ ∧ _ ∧ _ ∧ _) from ⟨((HX.out _ HW4.out).2.2.2.1.2.cells).1, ((HX.out _ HW4.out).2.2.2.2.2.cells).1⟩)
    have hlt : w.heap.size < W4.heap.size ∧ (w.heap.size + 1) < W4.heap.size := ⟨(HX.out _ HW4.out).2.2.2.1.2.lt, (HX.out _ HW4.out).2.2.2.2.2.lt⟩
    go_wp2_with fail
    (with_reducible refine Calls.mono C.out ?_)
    rintro e W5 ⟨rfl, hb⟩
    have HW5 := Lib.hid (HW4.out.trans (hb.mono HW4.out.size))
    clear hb C hlt m00 m01 m02 m03 m04 m10 m11 m12 m13 m14
    go_wp2
    go_ret
    exact ⟨by show Ending.returned (.bool ((exprS t == exprS u) == (smallN t && smallN u && sameN t u))) = _; rw [HQ.out], HB.out.trans (HW5.out.mono HB.out.size)⟩

end Go.Proofs.YtcndknkdhlmdnaaGreatDoor
