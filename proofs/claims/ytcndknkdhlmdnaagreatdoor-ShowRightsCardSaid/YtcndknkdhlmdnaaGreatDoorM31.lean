/-
  Texts that the statements' proofs rest on, one behind another: RightsW, PartsW, SamesW.
-/
import Derived.Test.YtcndknkdhlmdnaaGreatDoorM30
import Derived.Test.YtcndknkdhlmdnaaGreatDoorM20
import Derived.Test.YtcndknkdhlmdnaaGreatDoorM23
import Derived.Test.YtcndknkdhlmdnaaGreatDoorM09
import Derived.Deep.AppendLies
import Derived.Deep.Cut
import Derived.BigQuiet
import Derived.Test.YtcndknkdhlmdnaaGreatDoorM07

/-
  usancelaw09.ShowRights, walked.
-/
namespace Go.Proofs.YtcndknkdhlmdnaaGreatDoor
open Go.RowKit
set_option maxRecDepth 100000

set_option maxHeartbeats 4000000 in
theorem rights_true (t : Nd) (a : Option Addr) (cap : Nat) (w : World) (ht : t.hold w.heap.size w a cap) (st : shortN t) (he : Env w) (hta : Tab w) :
    Calls Tryz.prog 3 #[.agg #[.int .i64 t.kind, .string t.text, .int .i64 t.n, .slice a t.kids.length cap, .int .i64 t.place]] w fun e W' => e = .returned (.bool true) ∧ Below w.heap.size w W' := by
  obtain ⟨W1, hW1⟩ : ∃ W, W = (w.alloc (.cells #[.int .i64 t.kind, .string t.text, .int .i64 t.n, .slice a t.kids.length cap, .int .i64 t.place] 24)) := ⟨_, rfl⟩
  have hB1 : Below w.heap.size w W1 := hW1 ▸ nbelow1 w _
  have Nt1 : NBox w.heap.size t a cap W1 := hW1 ▸ NBox.make w t a cap
  have HX := Lib.hid (show ∀ cur, Below W1.heap.size W1 cur → Env cur ∧ Tab cur ∧ w.heap.size ≤ cur.heap.size ∧ (t.hold w.heap.size cur a cap ∧ NBox w.heap.size t a cap cur) from fun cur hb => ⟨(he.below hB1).below hb, (hta.below hB1).below hb, Nat.le_trans hB1.size hb.size, ⟨ht.below (hB1.trans (hb.mono hB1.size)), Nt1.below hb⟩⟩)
  have HB := Lib.hid hB1
  have HSt := Lib.hid st
  have HW1 := Lib.hid (Below.refl W1.heap.size W1)
  clear he hta hB1 ht st Nt1
  have C := Lib.hid (shown_any _ (HX.out _ HW1.out).1 (HX.out _ HW1.out).2.1)
  go_enter Tryz.func3, Tryz.ntmps3
  go_wp2_with fail
  rw [← hW1]
  clear hW1
  (with_reducible refine Calls.mono C.out ?_)
  rintro e W2 ⟨rfl, hb⟩
  have HW2 := Lib.hid (HW1.out.trans (hb.mono HW1.out.size))
  clear hb C
  have C := Lib.hid (sModule_any t a cap w.heap.size _ (HX.out _ HW2.out).2.2.2.1 HSt.out (HX.out _ HW2.out).2.2.1 (HX.out _ HW2.out).1 (HX.out _ HW2.out).2.1)
  obtain ⟨m00, m01, m02, m03, m04⟩ := ((HX.out _ HW2.out).2.2.2.2.cells).1
  have hlt : w.heap.size < W2.heap.size := (HX.out _ HW2.out).2.2.2.2.lt
  go_wp2_with fail
  (with_reducible refine Calls.mono C.out ?_)
  rintro e W3 ⟨rfl, hb⟩
  have HW3 := Lib.hid (HW2.out.trans (hb.mono HW2.out.size))
  clear hb C hlt m00 m01 m02 m03 m04
  have C := Lib.hid (rModule_any t a cap w.heap.size _ (HX.out _ HW3.out).2.2.2.1 (HX.out _ HW3.out).2.2.1)
  obtain ⟨m00, m01, m02, m03, m04⟩ := ((HX.out _ HW3.out).2.2.2.2.cells).1
  have hlt : w.heap.size < W3.heap.size := (HX.out _ HW3.out).2.2.2.2.lt
  go_wp2_with fail
  (with_reducible refine Calls.mono C.out ?_)
  rintro e W4 ⟨rfl, hb⟩
  have HW4 := Lib.hid (HW3.out.trans (hb.mono HW3.out.size))
  clear hb C hlt m00 m01 m02 m03 m04
  have C := Lib.hid (sExpr_any t a cap w.heap.size _ (HX.out _ HW4.out).2.2.2.1 HSt.out (HX.out _ HW4.out).2.2.1 (HX.out _ HW4.out).1 (HX.out _ HW4.out).2.1)
  obtain ⟨m00, m01, m02, m03, m04⟩ := ((HX.out _ HW4.out).2.2.2.2.cells).1
  have hlt : w.heap.size < W4.heap.size := (HX.out _ HW4.out).2.2.2.2.lt
  go_wp2_with fail
  (with_reducible refine Calls.mono C.out ?_)
  rintro e W5 ⟨rfl, hb⟩
  have HW5 := Lib.hid (HW4.out.trans (hb.mono HW4.out.size))
  clear hb C hlt m00 m01 m02 m03 m04
  have C := Lib.hid (rExpr_any t a cap w.heap.size _ (HX.out _ HW5.out).2.2.2.1 (HX.out _ HW5.out).2.2.1)
  obtain ⟨m00, m01, m02, m03, m04⟩ := ((HX.out _ HW5.out).2.2.2.2.cells).1
  have hlt : w.heap.size < W5.heap.size := (HX.out _ HW5.out).2.2.2.2.lt
  go_wp2_with fail
  (with_reducible refine Calls.mono C.out ?_)
  rintro e W6 ⟨rfl, hb⟩
  have HW6 := Lib.hid (HW5.out.trans (hb.mono HW5.out.size))
  clear hb C hlt m00 m01 m02 m03 m04
  have R0 := Lib.hid (show ∀ cur, Below W1.heap.size W1 cur → Calls Tryz.prog 19 #[.agg #[.int .i64 t.kind, .string t.text, .int .i64 t.n, .slice a t.kids.length cap, .int .i64 t.place]] cur fun e W' => e = .returned (.bool (modN t)) ∧ Below W1.heap.size W1 W' from fun cur hc =>
    (sRight_any t a cap w.heap.size cur (HX.out cur hc).2.2.2.1 HSt.out (HX.out cur hc).2.2.1 (HX.out cur hc).1 (HX.out cur hc).2.1).mono (by rintro e W' ⟨rfl, hb⟩; exact ⟨rfl, hc.trans (hb.mono hc.size)⟩))
  have R1 := Lib.hid (show ∀ cur, Below W1.heap.size W1 cur → Calls Tryz.prog 20 #[.agg #[.int .i64 t.kind, .string t.text, .int .i64 t.n, .slice a t.kids.length cap, .int .i64 t.place]] cur fun e W' => e = .returned (.bool (modN t)) ∧ Below W1.heap.size W1 W' from fun cur hc =>
    (rRight_any t a cap w.heap.size cur (HX.out cur hc).2.2.2.1 (HX.out cur hc).2.2.1).mono (by rintro e W' ⟨rfl, hb⟩; exact ⟨rfl, hc.trans (hb.mono hc.size)⟩))
  have R2 := Lib.hid (show ∀ cur, Below W1.heap.size W1 cur → Calls Tryz.prog 21 #[.agg #[.int .i64 t.kind, .string t.text, .int .i64 t.n, .slice a t.kids.length cap, .int .i64 t.place]] cur fun e W' => e = .returned (.bool (rightE t)) ∧ Below W1.heap.size W1 W' from fun cur hc =>
    (sRightExpr_any t a cap w.heap.size cur (HX.out cur hc).2.2.2.1 HSt.out (HX.out cur hc).2.2.1 (HX.out cur hc).1 (HX.out cur hc).2.1).mono (by rintro e W' ⟨rfl, hb⟩; exact ⟨rfl, hc.trans (hb.mono hc.size)⟩))
  have R3 := Lib.hid (show ∀ cur, Below W1.heap.size W1 cur → Calls Tryz.prog 22 #[.agg #[.int .i64 t.kind, .string t.text, .int .i64 t.n, .slice a t.kids.length cap, .int .i64 t.place]] cur fun e W' => e = .returned (.bool (rightE t)) ∧ Below W1.heap.size W1 W' from fun cur hc =>
    (rRightExpr_any t a cap w.heap.size cur (HX.out cur hc).2.2.2.1 (HX.out cur hc).2.2.1).mono (by rintro e W' ⟨rfl, hb⟩; exact ⟨rfl, hc.trans (hb.mono hc.size)⟩))
  have HS := Lib.hid (show ∀ cur, Below W1.heap.size W1 cur → Below W1.heap.size W1 cur ∧ cur.cell? ⟨w.heap.size, 0, none⟩ = some (.int .i64 t.kind) ∧ cur.cell? ⟨w.heap.size, 1, none⟩ = some (.string t.text) ∧ cur.cell? ⟨w.heap.size, 2, none⟩ = some (.int .i64 t.n) ∧ cur.cell? ⟨w.heap.size, 3, none⟩ = some (.slice a t.kids.length cap) ∧ cur.cell? ⟨w.heap.size, 4, none⟩ = some (.int .i64 t.place) from fun cur hc => ⟨hc, (HX.out cur hc).2.2.2.2.cells.1.1, (HX.out cur hc).2.2.2.2.cells.1.2.1, (HX.out cur hc).2.2.2.2.cells.1.2.2.1, (HX.out cur hc).2.2.2.2.cells.1.2.2.2.1, (HX.out cur hc).2.2.2.2.cells.1.2.2.2.2⟩)
  go_wp2_with fail
  have hb := HW6.out
  go_region_held3 (fun cur => Below W1.heap.size W1 cur ∧ cur.cell? ⟨w.heap.size, 0, none⟩ = some (.int .i64 t.kind) ∧ cur.cell? ⟨w.heap.size, 1, none⟩ = some (.string t.text) ∧ cur.cell? ⟨w.heap.size, 2, none⟩ = some (.int .i64 t.n) ∧ cur.cell? ⟨w.heap.size, 3, none⟩ = some (.slice a t.kids.length cap) ∧ cur.cell? ⟨w.heap.size, 4, none⟩ = some (.int .i64 t.place))
    (first | exact HS.out _ hb | exact HS.out _ hb.drew)
    (first
      | (go_at_call 19; refine (R0.out _ ?_).mono ?_; (go_split_ands; assumption); rintro e w' ⟨rfl, hb⟩)
      | (go_at_call 20; refine (R1.out _ ?_).mono ?_; (go_split_ands; assumption); rintro e w' ⟨rfl, hb⟩)
      | (go_at_call 21; refine (R2.out _ ?_).mono ?_; (go_split_ands; assumption); rintro e w' ⟨rfl, hb⟩)
      | (go_at_call 22; refine (R3.out _ ?_).mono ?_; (go_split_ands; assumption); rintro e w' ⟨rfl, hb⟩))
  go_wp2
  go_ret
  exact ⟨rfl, HB.out.trans (hb.mono HB.out.size)⟩

end Go.Proofs.YtcndknkdhlmdnaaGreatDoor

/-
  usancelaw09.ShowParts, walked.
-/
namespace Go.Proofs.YtcndknkdhlmdnaaGreatDoor
open Go.RowKit
set_option maxRecDepth 100000

/-- the forms of the kids ahead, in a row of the call's own -/
structure SRow (B : Nat) (t : Nd) (k : Nat) (v : Value) (W : World) : Prop where
  own : W.ownsRow B 9 1 v k ((t.kids.take k).map fun x => Value.string ⟨(formN x).toArray⟩)
theorem SRow.nil (B : Nat) (t : Nd) (W : World) : SRow B t 0 (.slice none 0 0) W := ⟨World.ownsRow_nil W B _ 1⟩
theorem SRow.below {B : Nat} {t : Nd} {k : Nat} {v : Value} {W W' : World} (h : SRow B t k v W) (hb : Below W.heap.size W W') : SRow B t k v W' :=
  ⟨h.own.kept (grown_below hb) (by cases v.ownBlock with | none => exact .inl rfl | some k => exact .inr (by simp))⟩
theorem SRow.snoc {B : Nat} {t : Nd} {k : Nat} {v : Value} {W : World} {F : ByteArray} (hk : k < t.kids.length) (hF : F = ⟨(formN t.kids[k]).toArray⟩)
    (h : W.ownsRow B 9 1 v (k + 1) ((t.kids.take k).map (fun x => Value.string ⟨(formN x).toArray⟩) ++ [.string F])) : SRow B t (k + 1) v W :=
  ⟨by rw [List.take_succ_eq_append_getElem hk, List.map_append]; rw [hF] at h; exact h⟩
theorem SRow.row {B : Nat} {t : Nd} {v : Value} {W : World} (h : SRow B t t.kids.length v W) (h0 : 0 < t.kids.length) : ∃ g cap, v = .slice (some ⟨g, 0, none⟩) t.kids.length cap ∧ t.kids.length ≤ cap ∧ cap ≤ maxLen ∧
    ∀ cur, Below W.heap.size W cur → ∀ j (hj : j < t.kids.length), cur.cell? ⟨g, j, none⟩ = some (.string ⟨(formN t.kids[j]).toArray⟩) := by
  rcases h.own.2 with ⟨_, hz⟩ | ⟨g, cap, cur, hv, hBg, hg, hnc, hcm, hcs, htake⟩
  · omega
  · refine ⟨g, cap, hv, hnc, hcm, fun c hc j hj => ?_⟩
    rw [hc.cell (p := ⟨g, j, none⟩) (heap_lt hg), Lib.cell_of_heap hg]
    have e : (cur.toList.take (t.kids.length * 1))[j]? = some (.string ⟨(formN t.kids[j]).toArray⟩) := by
      rw [htake, List.take_length, List.getElem?_map, List.getElem?_eq_getElem hj]; rfl
    rw [List.getElem?_take, if_pos (by omega)] at e
    simpa using e

theorem bdrewN {B : Nat} {w W : World} (h : Below B w W) (n : Nat) : Below B w (W.drewN n) := ⟨h.os, h.tape, h.output, h.size, h.block⟩
theorem parts_call {t : Nd} (hk : t.kind = 11) {S x : ByteArray} (hS : S = ⟨(formN t).toArray⟩) (hx : x.data.toList = t.text.data.toList ++ 40 :: bodyL (t.kids.map formN)) : S = x ++ ⟨#[41]⟩ := by
  rw [hS, call_form hk, list_body]
  exact (bytes_of (by simp [hx])).symm
theorem parts_if {t : Nd} (hk : t.kind = 14) (hl : t.kids.length = 3) {S F0 F1 F2 : ByteArray} (hS : S = ⟨(formN t).toArray⟩) (h0 : F0 = ⟨(formN (t.kids[0]'(by omega))).toArray⟩) (h1 : F1 = ⟨(formN (t.kids[1]'(by omega))).toArray⟩) (h2 : F2 = ⟨(formN (t.kids[2]'(by omega))).toArray⟩) :
    S = ⟨#[105, 102, 32]⟩ ++ F0 ++ ⟨#[32, 116, 104, 101, 110, 32]⟩ ++ F1 ++ ⟨#[32, 101, 108, 115, 101, 32]⟩ ++ F2 := by
  rw [hS, if_form hk hl]
  exact (bytes_of (by simp [h0, h1, h2])).symm
theorem parts_lens {t : Nd} (hr : rightE t = true) (hk : t.kind = 11) : t.text.size ≤ 1048576 ∧ (∀ k, (bodyL ((t.kids.take k).map formN)).length ≤ 1048576) ∧ ∀ k (hk : k < t.kids.length), (formN t.kids[k]).length ≤ 1048576 := by
  have h := right_len hr
  rw [call_form hk, List.length_append, list_len, size_list] at h
  refine ⟨by omega, fun k => ?_, fun k hk => right_len (kid_right hr (List.getElem_mem hk))⟩
  have := body_take (t.kids.map formN) k
  rw [List.map_take]
  omega
theorem parts_0 (s : List UInt8) {x F : ByteArray} {t : Nd} (hk : 0 < t.kids.length) (hx : x.data.toList = s ++ 40 :: bodyL ((t.kids.take 0).map formN)) (hF : F = ⟨(formN t.kids[0]).toArray⟩) : (x ++ F).data.toList = s ++ 40 :: bodyL ((t.kids.take (0 + 1)).map formN) := by
  rw [body_step t.kids 0 hk, if_pos rfl, hF]
  simp [bodyL] at hx
  simp [hx]
theorem parts_k (s : List UInt8) {x F : ByteArray} {t : Nd} {k : Nat} (hk : k < t.kids.length) (h0 : k ≠ 0) (hx : x.data.toList = s ++ 40 :: bodyL ((t.kids.take k).map formN)) (hF : F = ⟨(formN t.kids[k]).toArray⟩) : (x ++ ⟨#[44, 32]⟩ ++ F).data.toList = s ++ 40 :: bodyL ((t.kids.take (k + 1)).map formN) := by
  rw [body_step t.kids k hk, if_neg h0, hF]
  simp [hx]

set_option maxHeartbeats 4000000 in
theorem parts_true (t : Nd) (a : Option Addr) (cap : Nat) (w : World) (ht : t.hold w.heap.size w a cap) (st : shortN t) (he : Env w) (hta : Tab w) :
    Calls Tryz.prog 4 #[.agg #[.int .i64 t.kind, .string t.text, .int .i64 t.n, .slice a t.kids.length cap, .int .i64 t.place]] w fun e W' => e = .returned (.bool true) ∧ Below w.heap.size w W' := by
  obtain ⟨W1, hW1⟩ : ∃ W, W = (w.alloc (.cells #[.int .i64 t.kind, .string t.text, .int .i64 t.n, .slice a t.kids.length cap, .int .i64 t.place] 24)) := ⟨_, rfl⟩
  have hB1 : Below w.heap.size w W1 := hW1 ▸ nbelow1 w _
  have Nt1 : NBox w.heap.size t a cap W1 := hW1 ▸ NBox.make w t a cap
  have HX := Lib.hid (show ∀ cur, Below W1.heap.size W1 cur → Env cur ∧ Tab cur ∧ w.heap.size ≤ cur.heap.size ∧ (t.hold w.heap.size cur a cap ∧ NBox w.heap.size t a cap cur) from fun cur hb => ⟨(he.below hB1).below hb, (hta.below hB1).below hb, Nat.le_trans hB1.size hb.size, ⟨ht.below (hB1.trans (hb.mono hB1.size)), Nt1.below hb⟩⟩)
  have HB := Lib.hid hB1
  have HSt := Lib.hid st
  have HW1 := Lib.hid (Below.refl W1.heap.size W1)
  clear he hta hB1 ht st Nt1
  have C := Lib.hid (shown_any _ (HX.out _ HW1.out).1 (HX.out _ HW1.out).2.1)
  go_enter Tryz.func4, Tryz.ntmps4
  go_wp2_with fail
  rw [← hW1]
  clear hW1
  (with_reducible refine Calls.mono C.out ?_)
  rintro e W2 ⟨rfl, hb⟩
  have HW2 := Lib.hid (HW1.out.trans (hb.mono HW1.out.size))
  clear hb C
  have C := Lib.hid (sExpr_any t a cap w.heap.size _ (HX.out _ HW2.out).2.2.2.1 HSt.out (HX.out _ HW2.out).2.2.1 (HX.out _ HW2.out).1 (HX.out _ HW2.out).2.1)
  obtain ⟨m00, m01, m02, m03, m04⟩ := ((HX.out _ HW2.out).2.2.2.2.cells).1
  have hlt : w.heap.size < W2.heap.size := (HX.out _ HW2.out).2.2.2.2.lt
  go_wp2_with fail
  (with_reducible refine Calls.mono C.out ?_)
  rintro e W3 ⟨rfl, hb⟩
  have HW3 := Lib.hid (HW2.out.trans (hb.mono HW2.out.size))
  clear hb C hlt m00 m01 m02 m03 m04
  by_cases hr : rightE t = true
  case neg =>
    have q : exprE t = 90 := exprE_not hr
    rw [q]
    clear hr q
    go_wp2_with fail
    go_ret
    exact ⟨rfl, HB.out.trans (HW3.out.mono HB.out.size)⟩
  rw [exprE_ok hr, exprS_ok hr]
  obtain ⟨S, hS⟩ : ∃ S : ByteArray, S = ⟨(formN t).toArray⟩ := ⟨_, rfl⟩
  rw [← hS]
  have HSS := Lib.hid hS
  have HR := Lib.hid hr
  clear hr hS
  obtain ⟨m00, m01, m02, m03, m04⟩ := ((HX.out _ HW3.out).2.2.2.2.cells).1
  have hlt : w.heap.size < W3.heap.size := (HX.out _ HW3.out).2.2.2.2.lt
  by_cases hc : t.kind = 11 ∨ t.kind = 14
  case neg =>
    have q1 : (t.kind != 11) = true := bne_iff_ne.2 fun h => hc (.inl h)
    have q2 : (t.kind != 14) = true := bne_iff_ne.2 fun h => hc (.inr h)
    clear hc
    go_wp2_with fail
    go_ret
    exact ⟨rfl, HB.out.trans (HW3.out.mono HB.out.size)⟩
  have hk8 : 1 ≤ t.kids.length ∧ t.kids.length ≤ 8 := by
    rcases hc with h | h
    · have := call_len HR.out h; omega
    · have := if_kids HR.out h; omega
  have hkc := ((HX.out _ HW3.out).2.2.2.1.bounds).2.2.2.2
  obtain ⟨i0, hi, hz0, hz1, hz2⟩ := info_parts (show (Tryz.prog.info? 9).map (fun i => (i.zero, i.size, i.bytes)) = some (some (.string ⟨#[]⟩), 1, 16) by kernel_rfl)
  have HI0 := Lib.hid (show _ ∧ _ ∧ _ ∧ _ from ⟨hi, hz0, hz1, hz2⟩)
  clear hi hz0 hz1 hz2
  rcases hc with h11 | h14
  · have q1 : (t.kind != 11) = false := by rw [h11]; rfl
    have HL := Lib.hid hk8
    have H11 := Lib.hid h11
    clear h11
    go_wp2_with fail
    go_loopw [6, 7, 8, 9] (fun v i _ _ wr => ∃ k : Nat, k ≤ t.kids.length ∧ i = .int .i64 k ∧ Hid (SRow W1.heap.size t k v wr) ∧ Hid (Below W1.heap.size W1 wr)) (fun _ i _ _ _ => t.kids.length - (intOf i).toNat)
    case atStart => exact ⟨0, Nat.zero_le _, rfl, SRow.nil _ _ _, HW3.out⟩
    case round =>
      obtain ⟨k, hk, rfl, HRow, HBr⟩ := hrel
      obtain ⟨m00, m01, m02, m03, m04⟩ := ((HX.out _ HBr.out).2.2.2.2.cells).1
      have hlt0 : w.heap.size < wr.heap.size := (HX.out _ HBr.out).2.2.2.2.lt
      by_cases hlt : k < t.kids.length
      · obtain ⟨b, off, x, cx, A⟩ := (HX.out _ HBr.out).2.2.2.1.kid k hlt
        obtain ⟨rfl, hb0, c0, c1, c2, c3, c4, hk1⟩ := A
        obtain ⟨F, hF⟩ : ∃ F : ByteArray, F = ⟨(formN t.kids[k]).toArray⟩ := ⟨_, rfl⟩
        have hkr := kid_right HR.out (List.getElem_mem hlt)
        have C := Lib.hid (sExpr_any t.kids[k] x cx w.heap.size wr hk1 (HSt.out.kid k hlt) (HX.out _ HBr.out).2.2.1 (HX.out _ HBr.out).1 (HX.out _ HBr.out).2.1)
        rw [exprS_ok hkr, exprE_ok hkr, ← hF] at C
        have HFF := Lib.hid hF
        clear hk1 hkr hF
        go_wp2_with fail
        (with_reducible refine Calls.mono C.out ?_)
        rintro e w4 ⟨rfl, hb⟩
        have HB4 := Lib.hid (HBr.out.trans (hb.mono HBr.out.size))
        have HR4 := Lib.hid (HRow.out.below hb)
        have hB4 : W1.heap.size ≤ w4.heap.size := HB4.out.size
        clear hb C m00 m01 m02 m03 m04 hlt0 c0 c1 c2 c3 c4
        go_wp2_with (at_builtin; refine wpList_append_own _ rfl _ _ 30 rfl W1.heap.size 9 i0 (.string ⟨#[]⟩) 1 16 Tryz.underlying30 HI0.out.1 HI0.out.2.1 HI0.out.2.2.1 HI0.out.2.2.2 rfl (by decide) _ _ _ rfl (HR4.out.own.alloc _) ⟨w4.heap.size, 0, none⟩ 1 1 [.string F] rfl rfl (cell_one_new _ _ _) (fun u hu => by simp at hu; subst hu; rfl) (by unfold maxLen; omega) (by omega) (by simp; omega) ?_; intro v' w5 hown' hgrow' _)
        have HR5 := Lib.hid (SRow.snoc hlt HFF.out hown')
        have hbg : Below W1.heap.size w4 w5 := ((nbelow1 w4 (.cells #[.string F] 9)).mono hB4).grown hgrow' (by simp; omega) (fun r e => (HR4.out.own.lt r e).1)
        have HB5 := Lib.hid (HB4.out.trans (hbg.mono (Nat.le_refl _)))
        clear hown' hgrow' hbg
        go_roundw
        case rel => exact ⟨k + 1, by omega, by go_num, HR5, HB5⟩
        case measure => simp [intOf]; omega
      · obtain rfl : k = t.kids.length := by omega
        obtain ⟨g, gc, rfl, hgc, hgm, hcell⟩ := HRow.out.row (by omega)
        have HCell := Lib.hid hcell
        clear HRow hcell
        have h11 := H11.out
        have q3 : (t.kind == 14) = false := by rw [h11]; rfl
        obtain ⟨hts, hbk, hfk⟩ := parts_lens HR.out h11
        have HBK := Lib.hid hbk
        have HFK := Lib.hid hfk
        have HK := Lib.hid h11
        clear hbk hfk h11
        go_wp2_with fail
        go_loopw [10, 11] (fun s i wr2 => ∃ (k : Nat) (x : ByteArray), k ≤ t.kids.length ∧ i = .int .i64 k ∧ s = .string x ∧ Hid (x.data.toList = t.text.data.toList ++ 40 :: bodyL ((t.kids.take k).map formN)) ∧ Hid (Below wr.heap.size wr wr2)) (fun _ i _ => t.kids.length - (intOf i).toNat)
        case atStart => exact ⟨0, _, Nat.zero_le _, rfl, rfl, Lib.hid (by simp [bodyL]), Below.refl _ _⟩
        case round =>
          obtain ⟨k, x, hk, rfl, rfl, HXx, HB2⟩ := hrel
          have hxs : x.size ≤ 2097153 := by
            have h1 := congrArg List.length HXx.out
            have h2 := HBK.out k
            rw [List.length_append, List.length_cons, size_list, size_list] at h1; omega
          by_cases hlt : k < t.kids.length
          · have cc := HCell.out _ HB2.out k hlt
            obtain ⟨F, hF⟩ : ∃ F : ByteArray, F = ⟨(formN t.kids[k]).toArray⟩ := ⟨_, rfl⟩
            have hFs : F.size ≤ 1048576 := by rw [hF]; exact HFK.out k hlt
            rw [← hF] at cc
            have HFF := Lib.hid hF
            clear hF
            by_cases h0 : k = 0
            · subst h0
              have X2 := Lib.hid (parts_0 _ hlt HXx.out HFF.out)
              go_wp2_with fail
              go_roundw
              case rel => exact ⟨0 + 1, _, by omega, by go_num, rfl, X2, HB2⟩
              case measure => simp [intOf]; omega
            · have hpos : 0 < k := by omega
              have X2 := Lib.hid (parts_k _ hlt h0 HXx.out HFF.out)
              clear h0
              go_wp2_with fail
              go_roundw
              case rel => exact ⟨k + 1, _, by omega, by go_num, rfl, X2, HB2⟩
              case measure => simp [intOf]; omega
          · obtain rfl : k = t.kids.length := by omega
            have E := Lib.hid (parts_call HK.out HSS.out (by have := HXx.out; rwa [List.take_length] at this))
            go_wp2_with fail
            go_ret
            exact ⟨by rw [E.out]; simp, HB.out.trans ((HBr.out.trans (HB2.out.mono HBr.out.size)).mono HB.out.size)⟩
  · have q1 : (t.kind != 11) = true := by rw [h14]; rfl
    have q2 : (t.kind != 14) = false := by rw [h14]; rfl
    have HL := Lib.hid hk8
    have H14 := Lib.hid h14
    clear h14
    go_wp2_with fail
    go_loopw [6, 7, 8, 9] (fun v i _ _ wr => ∃ k : Nat, k ≤ t.kids.length ∧ i = .int .i64 k ∧ Hid (SRow W1.heap.size t k v wr) ∧ Hid (Below W1.heap.size W1 wr)) (fun _ i _ _ _ => t.kids.length - (intOf i).toNat)
    case atStart => exact ⟨0, Nat.zero_le _, rfl, SRow.nil _ _ _, HW3.out⟩
    case round =>
      obtain ⟨k, hk, rfl, HRow, HBr⟩ := hrel
      obtain ⟨m00, m01, m02, m03, m04⟩ := ((HX.out _ HBr.out).2.2.2.2.cells).1
      have hlt0 : w.heap.size < wr.heap.size := (HX.out _ HBr.out).2.2.2.2.lt
      by_cases hlt : k < t.kids.length
      · obtain ⟨b, off, x, cx, A⟩ := (HX.out _ HBr.out).2.2.2.1.kid k hlt
        obtain ⟨rfl, hb0, c0, c1, c2, c3, c4, hk1⟩ := A
        obtain ⟨F, hF⟩ : ∃ F : ByteArray, F = ⟨(formN t.kids[k]).toArray⟩ := ⟨_, rfl⟩
        have hkr := kid_right HR.out (List.getElem_mem hlt)
        have C := Lib.hid (sExpr_any t.kids[k] x cx w.heap.size wr hk1 (HSt.out.kid k hlt) (HX.out _ HBr.out).2.2.1 (HX.out _ HBr.out).1 (HX.out _ HBr.out).2.1)
        rw [exprS_ok hkr, exprE_ok hkr, ← hF] at C
        have HFF := Lib.hid hF
        clear hk1 hkr hF
        go_wp2_with fail
        (with_reducible refine Calls.mono C.out ?_)
        rintro e w4 ⟨rfl, hb⟩
        have HB4 := Lib.hid (HBr.out.trans (hb.mono HBr.out.size))
        have HR4 := Lib.hid (HRow.out.below hb)
        have hB4 : W1.heap.size ≤ w4.heap.size := HB4.out.size
        clear hb C m00 m01 m02 m03 m04 hlt0 c0 c1 c2 c3 c4
        go_wp2_with (at_builtin; refine wpList_append_own _ rfl _ _ 30 rfl W1.heap.size 9 i0 (.string ⟨#[]⟩) 1 16 Tryz.underlying30 HI0.out.1 HI0.out.2.1 HI0.out.2.2.1 HI0.out.2.2.2 rfl (by decide) _ _ _ rfl (HR4.out.own.alloc _) ⟨w4.heap.size, 0, none⟩ 1 1 [.string F] rfl rfl (cell_one_new _ _ _) (fun u hu => by simp at hu; subst hu; rfl) (by unfold maxLen; omega) (by omega) (by simp; omega) ?_; intro v' w5 hown' hgrow' _)
        have HR5 := Lib.hid (SRow.snoc hlt HFF.out hown')
        have hbg : Below W1.heap.size w4 w5 := ((nbelow1 w4 (.cells #[.string F] 9)).mono hB4).grown hgrow' (by simp; omega) (fun r e => (HR4.out.own.lt r e).1)
        have HB5 := Lib.hid (HB4.out.trans (hbg.mono (Nat.le_refl _)))
        clear hown' hgrow' hbg
        go_roundw
        case rel => exact ⟨k + 1, by omega, by go_num, HR5, HB5⟩
        case measure => simp [intOf]; omega
      · obtain rfl : k = t.kids.length := by omega
        obtain ⟨g, gc, rfl, hgc, hgm, hcell⟩ := HRow.out.row (by omega)
        have HCell := Lib.hid hcell
        clear HRow hcell
        have h14 := H14.out
        have q3 : (t.kind == 14) = true := by rw [h14]; rfl
        have hl3 := if_kids HR.out h14
        obtain ⟨F0, h0⟩ : ∃ F : ByteArray, F = ⟨(formN (t.kids[0]'(by omega))).toArray⟩ := ⟨_, rfl⟩
        obtain ⟨F1, h1⟩ : ∃ F : ByteArray, F = ⟨(formN (t.kids[1]'(by omega))).toArray⟩ := ⟨_, rfl⟩
        obtain ⟨F2, h2⟩ : ∃ F : ByteArray, F = ⟨(formN (t.kids[2]'(by omega))).toArray⟩ := ⟨_, rfl⟩
        have E := Lib.hid (parts_if h14 hl3 HSS.out h0 h1 h2)
        have s0 : F0.size ≤ 1048576 := by rw [h0]; exact right_len (kid_right HR.out (List.getElem_mem _))
        have s1 : F1.size ≤ 1048576 := by rw [h1]; exact right_len (kid_right HR.out (List.getElem_mem _))
        have s2 : F2.size ≤ 1048576 := by rw [h2]; exact right_len (kid_right HR.out (List.getElem_mem _))
        have cc0 := HCell.out _ (Below.refl _ wr) 0 (by omega)
        have cc1 := HCell.out _ (Below.refl _ wr) 1 (by omega)
        have cc2 := HCell.out _ (Below.refl _ wr) 2 (by omega)
        rw [← h0] at cc0
        rw [← h1] at cc1
        rw [← h2] at cc2
        clear h0 h1 h2 h14
        go_wp2_with fail
        go_quiet (fail)
        go_wp2_with fail
        go_ret
        exact ⟨by rw [E.out]; simp, HB.out.trans ((bdrewN HBr.out nq).mono HB.out.size)⟩

end Go.Proofs.YtcndknkdhlmdnaaGreatDoor

/-
  usancelaw09.ShowSames, walked.
-/
namespace Go.Proofs.YtcndknkdhlmdnaaGreatDoor
open Go.RowKit
set_option maxRecDepth 100000

set_option maxHeartbeats 4000000 in
theorem sames_true (t : Nd) (a : Option Addr) (cap : Nat) (u : Nd) (a2 : Option Addr) (cap2 : Nat) (w : World) (ht : t.hold w.heap.size w a cap) (st : shortN t) (hu : u.hold w.heap.size w a2 cap2) (su : shortN u) (he : Env w) (hta : Tab w) :
    Calls Tryz.prog 5 #[.agg #[.int .i64 t.kind, .string t.text, .int .i64 t.n, .slice a t.kids.length cap, .int .i64 t.place], .agg #[.int .i64 u.kind, .string u.text, .int .i64 u.n, .slice a2 u.kids.length cap2, .int .i64 u.place]] w fun e W' => e = .returned (.bool true) ∧ Below w.heap.size w W' := by
  obtain ⟨W1, hW1⟩ : ∃ W, W = ((w.alloc (.cells #[.int .i64 t.kind, .string t.text, .int .i64 t.n, .slice a t.kids.length cap, .int .i64 t.place] 24)).alloc (.cells #[.int .i64 u.kind, .string u.text, .int .i64 u.n, .slice a2 u.kids.length cap2, .int .i64 u.place] 24)) := ⟨_, rfl⟩
  have hB1 : Below w.heap.size w W1 := hW1 ▸ (nbelow1 w _).trans ((nbelow1 _ _).mono (nbelow1 w _).size)
  have Nt1 : NBox w.heap.size t a cap W1 := hW1 ▸ (NBox.make w t a cap).below (nbelow1 _ _)
  have Nu1 : NBox (w.heap.size + 1) u a2 cap2 W1 := by
    have := NBox.make (w.alloc (.cells #[.int .i64 t.kind, .string t.text, .int .i64 t.n, .slice a t.kids.length cap, .int .i64 t.place] 24)) u a2 cap2
    rw [hW1]
    simpa using this
  have HX := Lib.hid (show ∀ cur, Below W1.heap.size W1 cur → Env cur ∧ Tab cur ∧ w.heap.size ≤ cur.heap.size ∧ (t.hold w.heap.size cur a cap ∧ NBox w.heap.size t a cap cur) ∧ (u.hold w.heap.size cur a2 cap2 ∧ NBox (w.heap.size + 1) u a2 cap2 cur) from fun cur hb => ⟨(he.below hB1).below hb, (hta.below hB1).below hb, Nat.le_trans hB1.size hb.size, ⟨ht.below (hB1.trans (hb.mono hB1.size)), Nt1.below hb⟩, ⟨hu.below (hB1.trans (hb.mono hB1.size)), Nu1.below hb⟩⟩)
  have HB := Lib.hid hB1
  have HSt := Lib.hid st
  have HSu := Lib.hid su
  have HW1 := Lib.hid (Below.refl W1.heap.size W1)
  clear he hta hB1 ht st Nt1 hu su Nu1
  have C := Lib.hid (shown_any _ (HX.out _ HW1.out).1 (HX.out _ HW1.out).2.1)
  go_enter Tryz.func5, Tryz.ntmps5
  go_wp2_with fail
  rw [← hW1]
  clear hW1
  (with_reducible refine Calls.mono C.out ?_)
  rintro e W2 ⟨rfl, hb⟩
  have HW2 := Lib.hid (HW1.out.trans (hb.mono HW1.out.size))
  clear hb C
  have R0 := Lib.hid (show ∀ cur, Below W1.heap.size W1 cur → Calls Tryz.prog 23 #[.agg #[.int .i64 t.kind, .string t.text, .int .i64 t.n, .slice a t.kids.length cap, .int .i64 t.place], .agg #[.int .i64 u.kind, .string u.text, .int .i64 u.n, .slice a2 u.kids.length cap2, .int .i64 u.place]] cur fun e W' => e = .returned (.bool (smallN t && smallN u && sameN t u)) ∧ Below W1.heap.size W1 W' from fun cur hc =>
    (sSame_any t u a cap a2 cap2 w.heap.size cur (HX.out cur hc).2.2.2.1.1 (HX.out cur hc).2.2.2.2.1 (HX.out cur hc).2.2.1).mono (by rintro e W' ⟨rfl, hb⟩; exact ⟨rfl, hc.trans (hb.mono hc.size)⟩))
  have R1 := Lib.hid (show ∀ cur, Below W1.heap.size W1 cur → Calls Tryz.prog 24 #[.agg #[.int .i64 t.kind, .string t.text, .int .i64 t.n, .slice a t.kids.length cap, .int .i64 t.place], .agg #[.int .i64 u.kind, .string u.text, .int .i64 u.n, .slice a2 u.kids.length cap2, .int .i64 u.place]] cur fun e W' => e = .returned (.bool (smallN t && smallN u && sameN t u)) ∧ Below W1.heap.size W1 W' from fun cur hc =>
    (rSame9_any t u a cap a2 cap2 w.heap.size cur (HX.out cur hc).2.2.2.1.1 (HX.out cur hc).2.2.2.2.1 (HX.out cur hc).2.2.1).mono (by rintro e W' ⟨rfl, hb⟩; exact ⟨rfl, hc.trans (hb.mono hc.size)⟩))
  have R2 := Lib.hid (show ∀ cur, Below W1.heap.size W1 cur → Calls Tryz.prog 23 #[.agg #[.int .i64 u.kind, .string u.text, .int .i64 u.n, .slice a2 u.kids.length cap2, .int .i64 u.place], .agg #[.int .i64 t.kind, .string t.text, .int .i64 t.n, .slice a t.kids.length cap, .int .i64 t.place]] cur fun e W' => e = .returned (.bool (smallN u && smallN t && sameN u t)) ∧ Below W1.heap.size W1 W' from fun cur hc =>
    (sSame_any u t a2 cap2 a cap w.heap.size cur (HX.out cur hc).2.2.2.2.1 (HX.out cur hc).2.2.2.1.1 (HX.out cur hc).2.2.1).mono (by rintro e W' ⟨rfl, hb⟩; exact ⟨rfl, hc.trans (hb.mono hc.size)⟩))
  have R3 := Lib.hid (show ∀ cur, Below W1.heap.size W1 cur → Calls Tryz.prog 24 #[.agg #[.int .i64 u.kind, .string u.text, .int .i64 u.n, .slice a2 u.kids.length cap2, .int .i64 u.place], .agg #[.int .i64 t.kind, .string t.text, .int .i64 t.n, .slice a t.kids.length cap, .int .i64 t.place]] cur fun e W' => e = .returned (.bool (smallN u && smallN t && sameN u t)) ∧ Below W1.heap.size W1 W' from fun cur hc =>
    (rSame9_any u t a2 cap2 a cap w.heap.size cur (HX.out cur hc).2.2.2.2.1 (HX.out cur hc).2.2.2.1.1 (HX.out cur hc).2.2.1).mono (by rintro e W' ⟨rfl, hb⟩; exact ⟨rfl, hc.trans (hb.mono hc.size)⟩))
  have R4 := Lib.hid (show ∀ cur, Below W1.heap.size W1 cur → Calls Tryz.prog 23 #[.agg #[.int .i64 t.kind, .string t.text, .int .i64 t.n, .slice a t.kids.length cap, .int .i64 t.place], .agg #[.int .i64 t.kind, .string t.text, .int .i64 t.n, .slice a t.kids.length cap, .int .i64 t.place]] cur fun e W' => e = .returned (.bool (smallN t && smallN t && sameN t t)) ∧ Below W1.heap.size W1 W' from fun cur hc =>
    (sSame_any t t a cap a cap w.heap.size cur (HX.out cur hc).2.2.2.1.1 (HX.out cur hc).2.2.2.1.1 (HX.out cur hc).2.2.1).mono (by rintro e W' ⟨rfl, hb⟩; exact ⟨rfl, hc.trans (hb.mono hc.size)⟩))
  have R5 := Lib.hid (show ∀ cur, Below W1.heap.size W1 cur → Calls Tryz.prog 25 #[.agg #[.int .i64 t.kind, .string t.text, .int .i64 t.n, .slice a t.kids.length cap, .int .i64 t.place]] cur fun e W' => e = .returned (.bool (smallN t)) ∧ Below W1.heap.size W1 W' from fun cur hc =>
    (rSmall_any t a cap w.heap.size cur (HX.out cur hc).2.2.2.1.1 (HX.out cur hc).2.2.1).mono (by rintro e W' ⟨rfl, hb⟩; exact ⟨rfl, hc.trans (hb.mono hc.size)⟩))
  have HS := Lib.hid (show ∀ cur, Below W1.heap.size W1 cur → Below W1.heap.size W1 cur ∧ cur.cell? ⟨w.heap.size, 0, none⟩ = some (.int .i64 t.kind) ∧ cur.cell? ⟨w.heap.size, 1, none⟩ = some (.string t.text) ∧ cur.cell? ⟨w.heap.size, 2, none⟩ = some (.int .i64 t.n) ∧ cur.cell? ⟨w.heap.size, 3, none⟩ = some (.slice a t.kids.length cap) ∧ cur.cell? ⟨w.heap.size, 4, none⟩ = some (.int .i64 t.place) ∧ cur.cell? ⟨w.heap.size + 1, 0, none⟩ = some (.int .i64 u.kind) ∧ cur.cell? ⟨w.heap.size + 1, 1, none⟩ = some (.string u.text) ∧ cur.cell? ⟨w.heap.size + 1, 2, none⟩ = some (.int .i64 u.n) ∧ cur.cell? ⟨w.heap.size + 1, 3, none⟩ = some (.slice a2 u.kids.length cap2) ∧ cur.cell? ⟨w.heap.size + 1, 4, none⟩ = some (.int .i64 u.place) from fun cur hc => ⟨hc, (HX.out cur hc).2.2.2.1.2.cells.1.1, (HX.out cur hc).2.2.2.1.2.cells.1.2.1, (HX.out cur hc).2.2.2.1.2.cells.1.2.2.1, (HX.out cur hc).2.2.2.1.2.cells.1.2.2.2.1, (HX.out cur hc).2.2.2.1.2.cells.1.2.2.2.2, (HX.out cur hc).2.2.2.2.2.cells.1.1, (HX.out cur hc).2.2.2.2.2.cells.1.2.1, (HX.out cur hc).2.2.2.2.2.cells.1.2.2.1, (HX.out cur hc).2.2.2.2.2.cells.1.2.2.2.1, (HX.out cur hc).2.2.2.2.2.cells.1.2.2.2.2⟩)
  go_wp2_with fail
  have hb := HW2.out
  go_region_held3 (fun cur => Below W1.heap.size W1 cur ∧ cur.cell? ⟨w.heap.size, 0, none⟩ = some (.int .i64 t.kind) ∧ cur.cell? ⟨w.heap.size, 1, none⟩ = some (.string t.text) ∧ cur.cell? ⟨w.heap.size, 2, none⟩ = some (.int .i64 t.n) ∧ cur.cell? ⟨w.heap.size, 3, none⟩ = some (.slice a t.kids.length cap) ∧ cur.cell? ⟨w.heap.size, 4, none⟩ = some (.int .i64 t.place) ∧ cur.cell? ⟨w.heap.size + 1, 0, none⟩ = some (.int .i64 u.kind) ∧ cur.cell? ⟨w.heap.size + 1, 1, none⟩ = some (.string u.text) ∧ cur.cell? ⟨w.heap.size + 1, 2, none⟩ = some (.int .i64 u.n) ∧ cur.cell? ⟨w.heap.size + 1, 3, none⟩ = some (.slice a2 u.kids.length cap2) ∧ cur.cell? ⟨w.heap.size + 1, 4, none⟩ = some (.int .i64 u.place))
    (first | exact HS.out _ hb | exact HS.out _ hb.drew)
    (first
      | (go_at_call 23; with_reducible refine Calls.mono (R0.out _ ?_) ?_; (go_split_ands; assumption); rintro e w' ⟨rfl, hb⟩)
      | (go_at_call 24; with_reducible refine Calls.mono (R1.out _ ?_) ?_; (go_split_ands; assumption); rintro e w' ⟨rfl, hb⟩)
      | (go_at_call 23; with_reducible refine Calls.mono (R2.out _ ?_) ?_; (go_split_ands; assumption); rintro e w' ⟨rfl, hb⟩)
      | (go_at_call 24; with_reducible refine Calls.mono (R3.out _ ?_) ?_; (go_split_ands; assumption); rintro e w' ⟨rfl, hb⟩)
      | (go_at_call 23; with_reducible refine Calls.mono (R4.out _ ?_) ?_; (go_split_ands; assumption); rintro e w' ⟨rfl, hb⟩)
      | (go_at_call 25; with_reducible refine Calls.mono (R5.out _ ?_) ?_; (go_split_ands; assumption); rintro e w' ⟨rfl, hb⟩))
  go_wp2
  go_ret
  exact ⟨by show Ending.returned (.bool ((smallN t && sameN t t) == smallN t)) = _; rw [sameN_refl, Bool.and_true, beq_self_eq_true], HB.out.trans (hb.mono HB.out.size)⟩

end Go.Proofs.YtcndknkdhlmdnaaGreatDoor
