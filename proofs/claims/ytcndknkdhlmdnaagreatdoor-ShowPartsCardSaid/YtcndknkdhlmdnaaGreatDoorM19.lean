/-
  Texts that the statements' proofs rest on, one behind another: ShowR, ShowS, ShowT, ShowU.
-/
import Derived.Test.YtcndknkdhlmdnaaGreatDoorM16
import Derived.Test.YtcndknkdhlmdnaaGreatDoorM05
import Derived.Test.YtcndknkdhlmdnaaGreatDoorM09
import Derived.Test.YtcndknkdhlmdnaaGreatDoorM13
import Derived.Test.YtcndknkdhlmdnaaGreatDoorM03
import Derived.Deep.RegionHeld3
import Derived.Test.YtcndknkdhlmdnaaGreatDoorM04

/-
  usanceref09: which expressions are right.
-/
namespace Go.Proofs.YtcndknkdhlmdnaaGreatDoor
open Go.RowKit
set_option maxRecDepth 100000

theorem rightN_eq (t : Nd) (d : Int) : rightN t d = (decide (d ≤ 100) && kidsOk t.kind t.kids.length && textOk t.kind t.text.data.toList && numOk t.kind t.n && rightKs t.kids (d + 1)) := by cases t; rw [rightN]; rfl
theorem rightKs_all {ks : List Nd} {d : Int} (h : ∀ j (hj : j < ks.length), rightN ks[j] d = true) : rightKs ks d = true := by
  have := rightKs_take ks d ks.length fun j hj _ => h j hj
  rwa [List.take_length] at this

set_option maxHeartbeats 4000000 in
theorem rright_any' (N : Nat) : ∀ t : Nd, SizeOf.sizeOf t < N → ∀ (a : Option Addr) (cap n₀ : Nat) (d : Int) (w : World), t.hold n₀ w a cap → n₀ ≤ w.heap.size → 0 ≤ d → d ≤ 1000 →
    Calls Tryz.prog 50 #[.agg #[.int .i64 t.kind, .string t.text, .int .i64 t.n, .slice a t.kids.length cap, .int .i64 t.place], .int .i64 d] w fun e w' => e = .returned (.bool (rightN t d)) ∧ Below w.heap.size w w' := by
  induction N with
  | zero => intro t ht; omega
  | succ N ih =>
  intro t ht a cap n₀ d w hh hn hd0 hd1
  have hts := hh.bounds.2.1
  have hkc := hh.bounds.2.2.2.2
  have hkl : t.kids.length ≤ 9223372036854775807 := Nat.le_trans hkc.1 hkc.2
  have hkd : ∀ (k : Nat) (hk : k < t.kids.length), SizeOf.sizeOf t.kids[k] < N := by
    cases t with
    | mk kind s n ks p => exact fun k hk => nkid_size hk ht
  have IH := Lib.hid fun (k : Nat) (h : k < t.kids.length) => ih _ (hkd k h)
  have HH := Lib.hid hh
  have R := Lib.hid (rightN_eq t d)
  have KL := Lib.hid (kids_lohi t.kind t.kids.length)
  clear hh ih ht hkd
  have HB := Lib.hid (nbelow1 w (.cells #[.int .i64 t.kind, .string t.text, .int .i64 t.n, .slice a t.kids.length cap, .int .i64 t.place] 24))
  have B0 := Lib.hid (Boxed.make w t a cap)
  go_enter Tryz.func50, Tryz.ntmps50
  go_wp2_with fail
  refine Calls.mono (rkids_any t.kind _) ?_
  rintro e w1 ⟨rfl, rfl⟩
  go_wp2_with fail
  generalize hW : w.alloc (.cells #[.int .i64 t.kind, .string t.text, .int .i64 t.n, .slice a t.kids.length cap, .int .i64 t.place] 24) = W1 at HB B0 ⊢
  clear hW
  refine Calls.mono (rworded_any t a cap W1 hts) ?_
  rintro e w2 ⟨rfl, hb⟩
  have HC := Lib.hid (HB.out.trans (hb.mono HB.out.size))
  have B1 := Lib.hid (B0.out.below hb)
  clear hb HB B0
  have c0 := B1.out.c0
  have c1 := B1.out.c1
  have c2 := B1.out.c2
  have c3 := B1.out.c3
  have c4 := B1.out.c4
  go_wp2_with fail
  refine Calls.mono (rnumbered_any t a cap w2) ?_
  rintro e w3 ⟨rfl, hb⟩
  have HD := Lib.hid (HC.out.trans (hb.mono HC.out.size))
  have B2 := Lib.hid (B1.out.below hb)
  clear hb HC B1 c0 c1 c2 c3 c4
  have c3 := B2.out.c3
  by_cases hd : 100 < d
  · have F := Lib.hid (show rightN t d = false by rw [R.out, decide_eq_false (by omega)]; rfl)
    go_wp2_with fail
    go_ret
    exact ⟨nretB F.out.symm, HD.out⟩
  by_cases hlo : (t.kids.length : Int) < kidsLo t.kind
  · have F := Lib.hid (show rightN t d = false by rw [R.out, KL.out, decide_eq_false (show ¬ kidsLo t.kind ≤ t.kids.length by omega)]; simp)
    go_wp2_with fail
    go_ret
    exact ⟨nretB F.out.symm, HD.out⟩
  by_cases hhi : kidsHi t.kind < (t.kids.length : Int)
  · have F := Lib.hid (show rightN t d = false by rw [R.out, KL.out, decide_eq_false (show ¬ (t.kids.length : Int) ≤ kidsHi t.kind by omega)]; simp)
    go_wp2_with fail
    go_ret
    exact ⟨nretB F.out.symm, HD.out⟩
  cases ht : textOk t.kind t.text.data.toList
  · have F := Lib.hid (show rightN t d = false by rw [R.out, ht]; simp)
    go_wp2_with fail
    go_ret
    exact ⟨nretB F.out.symm, HD.out⟩
  cases hnm : numOk t.kind t.n
  · have F := Lib.hid (show rightN t d = false by rw [R.out, hnm]; simp)
    go_wp2_with fail
    go_ret
    exact ⟨nretB F.out.symm, HD.out⟩
  have F := Lib.hid (show rightN t d = rightKs t.kids (d + 1) by
    rw [R.out, KL.out, ht, hnm, decide_eq_true (show kidsLo t.kind ≤ t.kids.length by omega), decide_eq_true (show (t.kids.length : Int) ≤ kidsHi t.kind by omega), decide_eq_true (show d ≤ 100 by omega)]; simp)
  go_wp2_with fail
  clear c3 ht hnm hlo hhi
  go_loopw [9, 10] (fun i _ wr => ∃ k : Nat, k ≤ t.kids.length ∧ i = .int .i64 k ∧ Hid (Below w.heap.size w wr) ∧ Hid (Boxed w.heap.size t a cap wr) ∧ Hid (∀ j (hj : j < t.kids.length), j < k → rightN t.kids[j] (d + 1) = true)) (fun i _ _ => t.kids.length - (intOf i).toNat)
  case atStart => exact ⟨0, Nat.zero_le _, rfl, HD, B2, fun j hj h => by omega⟩
  case round =>
    obtain ⟨k, hk, rfl, HBr, HBx, HAll⟩ := hrel
    clear B2 HD
    have c3 := HBx.out.c3
    by_cases hlt : k < t.kids.length
    · obtain ⟨b, off, x, cx, A⟩ := (HH.out.below (HBr.out.mono hn)).kid k hlt
      obtain ⟨rfl, hb0, c0, c1, c2, c3', c4, hk1⟩ := A
      have C := Lib.hid (IH.out k hlt x cx n₀ (d + 1) wr hk1 (Nat.le_trans hn HBr.out.size) (by omega) (by omega))
      clear hk1
      cases hr : rightN t.kids[k] (d + 1)
      · have F' := Lib.hid (show rightN t d = false by rw [F.out, rightKs_not hlt hr])
        go_wp2_with fail
        refine Calls.mono C.out ?_
        rintro e w4 ⟨rfl, hb⟩
        rw [hr]
        have HE := Lib.hid (HBr.out.trans (hb.mono HBr.out.size))
        clear hb
        go_wp2_with fail
        go_ret
        exact ⟨nretB F'.out.symm, HE.out⟩
      · have HR := Lib.hid hr
        go_wp2_with fail
        refine Calls.mono C.out ?_
        rintro e w4 ⟨rfl, hb⟩
        rw [hr]
        have HE := Lib.hid (HBr.out.trans (hb.mono HBr.out.size))
        have HX := Lib.hid (HBx.out.below hb)
        clear hb hr
        go_wp2_with fail
        go_roundw
        case rel =>
          refine ⟨k + 1, by omega, by go_num, HE, HX, fun j hj h => ?_⟩
          by_cases e : j = k
          · subst e; exact HR.out
          · exact HAll.out j hj (by omega)
        case measure => simp [intOf]; omega
    · have F' := Lib.hid (show rightN t d = true by rw [F.out, rightKs_all fun j hj => HAll.out j hj (by omega)])
      go_wp2_with fail
      go_ret
      exact ⟨nretB F'.out.symm, HBr.out⟩
/-- is it an expression's tree, at a depth? -/
theorem rright_any (t : Nd) (a : Option Addr) (cap n₀ : Nat) (d : Int) (w : World) (hh : t.hold n₀ w a cap) (hn : n₀ ≤ w.heap.size) (h0 : 0 ≤ d) (h1 : d ≤ 1000) :
    Calls Tryz.prog 50 #[.agg #[.int .i64 t.kind, .string t.text, .int .i64 t.n, .slice a t.kids.length cap, .int .i64 t.place], .int .i64 d] w fun e w' => e = .returned (.bool (rightN t d)) ∧ Below w.heap.size w w' :=
  rright_any' _ t (Nat.lt_succ_self _) a cap n₀ d w hh hn h0 h1

set_option maxHeartbeats 1000000 in
theorem rRightExpr_any (t : Nd) (a : Option Addr) (cap n₀ : Nat) (w : World) (hh : t.hold n₀ w a cap) (hn : n₀ ≤ w.heap.size) :
    Calls Tryz.prog 22 #[.agg #[.int .i64 t.kind, .string t.text, .int .i64 t.n, .slice a t.kids.length cap, .int .i64 t.place]] w fun e w' => e = .returned (.bool (rightE t)) ∧ Below w.heap.size w w' := by
  have HH := Lib.hid hh
  clear hh
  have HB := Lib.hid (nbelow1 w (.cells #[.int .i64 t.kind, .string t.text, .int .i64 t.n, .slice a t.kids.length cap, .int .i64 t.place] 24))
  have B0 := Lib.hid (Boxed.make w t a cap)
  go_enter Tryz.func22, Tryz.ntmps22
  go_wp2_with fail
  generalize hW : w.alloc (.cells #[.int .i64 t.kind, .string t.text, .int .i64 t.n, .slice a t.kids.length cap, .int .i64 t.place] 24) = W1 at HB B0 ⊢
  clear hW
  refine Calls.mono (rSmall_any t a cap n₀ W1 (HH.out.below (HB.out.mono hn)) (Nat.le_trans hn HB.out.size)) ?_
  rintro e w2 ⟨rfl, hb⟩
  have HC := Lib.hid (HB.out.trans (hb.mono HB.out.size))
  have B1 := Lib.hid (B0.out.below hb)
  clear hb HB B0
  cases hs : smallN t
  · go_wp2_with fail
    go_ret
    exact ⟨nretB (by unfold rightE; rw [hs]; rfl), HC.out⟩
  · have c0 := B1.out.c0
    have c1 := B1.out.c1
    have c2 := B1.out.c2
    have c3 := B1.out.c3
    have c4 := B1.out.c4
    have C := Lib.hid (rright_any t a cap n₀ 1 w2 (HH.out.below (HC.out.mono hn)) (Nat.le_trans hn HC.out.size) (by decide) (by decide))
    go_wp2_with fail
    refine Calls.mono C.out ?_
    rintro e w3 ⟨rfl, hb⟩
    have HD := Lib.hid (HC.out.trans (hb.mono HC.out.size))
    clear hb
    go_wp2_with fail
    go_ret
    exact ⟨nretB (by unfold rightE; rw [hs]; rfl), HD.out⟩

end Go.Proofs.YtcndknkdhlmdnaaGreatDoor

/-
  usanceref09: a right expression's form; parts and lists of forms, by the forms of the kids.
-/
namespace Go.Proofs.YtcndknkdhlmdnaaGreatDoor
open Go.RowKit
set_option maxRecDepth 100000

def FormC (n₀ : Nat) (t : Nd) : Prop := (formN t).length ≤ 1000000000000 → ∀ (a : Option Addr) (cap : Nat) (w : World), t.hold n₀ w a cap → n₀ ≤ w.heap.size →
  Calls Tryz.prog 45 #[.agg #[.int .i64 t.kind, .string t.text, .int .i64 t.n, .slice a t.kids.length cap, .int .i64 t.place]] w fun e w' => e = .returned (.string ⟨(formN t).toArray⟩) ∧ Below w.heap.size w w'
theorem retS {a b : ByteArray} (h : a = b) : Ending.returned (.string a) = .returned (.string b) := by rw [h]
theorem bytes_of {a : ByteArray} {l : List UInt8} (h : a.data.toList = l) : a = ⟨l.toArray⟩ := by
  rw [← h]

set_option maxHeartbeats 1000000 in
theorem rpart_of (t : Nd) (n₀ : Nat) (hf : FormC n₀ t) (a : Option Addr) (cap : Nat) (w : World) (hh : t.hold n₀ w a cap) (hn : n₀ ≤ w.heap.size) (hl2 : (formN t).length ≤ 1000000000000) :
    Calls Tryz.prog 70 #[.agg #[.int .i64 t.kind, .string t.text, .int .i64 t.n, .slice a t.kids.length cap, .int .i64 t.place]] w fun e w' => e = .returned (.string ⟨(partL t.kind (formN t)).toArray⟩) ∧ Below w.heap.size w w' := by
  have HB := Lib.hid (nbelow1 w (.cells #[.int .i64 t.kind, .string t.text, .int .i64 t.n, .slice a t.kids.length cap, .int .i64 t.place] 24))
  obtain ⟨F, hF⟩ : ∃ F : ByteArray, F = ⟨(formN t).toArray⟩ := ⟨_, rfl⟩
  have hFs : F.size ≤ 1000000000000 := by rw [hF]; exact hl2
  have C := Lib.hid (hf hl2 a cap _ (hh.below (HB.out.mono hn)) (Nat.le_trans hn HB.out.size))
  rw [← hF] at C
  have HF := Lib.hid hF
  clear hf hh hl2 hF
  have P := Lib.hid (show partL t.kind (formN t) = if wrapK t.kind = true then [40] ++ formN t ++ [41] else formN t from rfl)
  have hk : t.kind = 12 ∨ t.kind = 13 ∨ t.kind = 14 ∨ (t.kind ≠ 12 ∧ t.kind ≠ 13 ∧ t.kind ≠ 14) := by omega
  rcases hk with hk | hk | hk | hk
  case inr.inr.inr =>
    have P1 := Lib.hid (show partL t.kind (formN t) = formN t by
      rw [P.out, if_neg]
      unfold wrapK
      rw [decide_eq_false hk.1, decide_eq_false hk.2.1, decide_eq_false hk.2.2]; decide)
    have e1 : (t.kind == 12) = false := beq_eq_false_iff_ne.2 hk.1
    have e2 : (t.kind == 13) = false := beq_eq_false_iff_ne.2 hk.2.1
    have e3 : (t.kind == 14) = false := beq_eq_false_iff_ne.2 hk.2.2
    clear hk
    go_enter Tryz.func70, Tryz.ntmps70
    go_wp2_with fail
    refine Calls.mono C.out ?_
    rintro e w2 ⟨rfl, hb⟩
    have HC := Lib.hid (HB.out.trans (hb.mono HB.out.size))
    clear hb
    go_wp2_with fail
    go_ret
    exact ⟨retS (by rw [P1.out, HF.out]), HC.out⟩
  all_goals
    have P1 := Lib.hid (show partL t.kind (formN t) = [40] ++ formN t ++ [41] by
      rw [P.out, if_pos (by rw [hk]; decide)])
    have e1 : (t.kind == 12) = decide (t.kind = 12) := rfl
    have e2 : (t.kind == 13) = decide (t.kind = 13) := rfl
    have e3 : (t.kind == 14) = decide (t.kind = 14) := rfl
    first | rw [decide_eq_true (show t.kind = 12 by omega)] at e1 | rw [decide_eq_false (show ¬ t.kind = 12 by omega)] at e1
    first | rw [decide_eq_true (show t.kind = 13 by omega)] at e2 | rw [decide_eq_false (show ¬ t.kind = 13 by omega)] at e2
    first | rw [decide_eq_true (show t.kind = 14 by omega)] at e3 | rw [decide_eq_false (show ¬ t.kind = 14 by omega)] at e3
    clear hk
    go_enter Tryz.func70, Tryz.ntmps70
    go_wp2_with fail
    refine Calls.mono C.out ?_
    rintro e w2 ⟨rfl, hb⟩
    have HC := Lib.hid (HB.out.trans (hb.mono HB.out.size))
    clear hb
    go_wp2_with fail
    go_ret
    exact ⟨retS (by rw [P1.out, HF.out]; exact bytes_of (by simp)), HC.out⟩

set_option maxHeartbeats 2000000 in
theorem rlist_of (ks : List Nd) (n₀ : Nat) (hf : ∀ k ∈ ks, FormC n₀ k) (a : Option Addr) (cap : Nat) (w : World) (hh : Nd.holds n₀ w ks a 0) (hk0 : ks.length ≤ cap) (hk1 : cap ≤ maxLen) (hn : n₀ ≤ w.heap.size) (hl : (listL (ks.map formN)).length ≤ 1000000000000) :
    Calls Tryz.prog 44 #[.slice a ks.length cap] w fun e w' => e = .returned (.string ⟨(listL (ks.map formN)).toArray⟩) ∧ Below w.heap.size w w' := by
  have HH := Lib.hid hh
  have HF := Lib.hid hf
  have L := Lib.hid (list_body (ks.map formN))
  have hkl : ks.length ≤ 9223372036854775807 := Nat.le_trans hk0 hk1
  rw [list_len] at hl
  have hbk : ∀ k, (bodyL ((ks.take k).map formN)).length ≤ 1000000000000 := fun k => by
    rw [List.map_take]
    have := body_take (ks.map formN) k; omega
  have hfk : ∀ k ∈ ks, (formN k).length ≤ 1000000000000 := fun k hk => by
    have := body_mem (ks.map formN) (formN k) (List.mem_map_of_mem hk); omega
  have HBK := Lib.hid hbk
  have HFK := Lib.hid hfk
  clear hh hf hbk hfk hl
  go_enter Tryz.func44, Tryz.ntmps44
  go_wp2
  go_loopw [3, 4] (fun s i wr => ∃ (k : Nat) (x : ByteArray), k ≤ ks.length ∧ i = .int .i64 k ∧ s = .string x ∧ Hid (x.data.toList = 40 :: bodyL ((ks.take k).map formN)) ∧ Hid (Below w.heap.size w wr)) (fun _ i _ => ks.length - (intOf i).toNat)
  case atStart => exact ⟨0, ⟨#[40]⟩, Nat.zero_le _, rfl, rfl, rfl, Below.refl _ _⟩
  case round =>
    obtain ⟨k, x, hk, rfl, rfl, HX, HBr⟩ := hrel
    have hxs : x.size ≤ 1000000000001 := by
      have h1 := congrArg List.length HX.out
      have h2 := HBK.out k
      rw [List.length_cons, size_list] at h1; omega
    by_cases hlt : k < ks.length
    · obtain ⟨b, off, y, cy, A⟩ := Nd.holds.at ks 0 (Nd.holds.below (HBr.out.mono hn) ks HH.out) k hlt
      rw [Nat.zero_add] at A
      obtain ⟨rfl, hb0, c0, c1, c2, c3, c4, hk1⟩ := A
      obtain ⟨F, hF⟩ : ∃ F : ByteArray, F = ⟨(formN ks[k]).toArray⟩ := ⟨_, rfl⟩
      have hFs : F.size ≤ 1000000000000 := by rw [hF]; exact HFK.out _ (List.getElem_mem hlt)
      have C := Lib.hid (HF.out _ (List.getElem_mem hlt) (HFK.out _ (List.getElem_mem hlt)) y cy wr hk1 (Nat.le_trans hn HBr.out.size))
      rw [← hF] at C
      have HFF := Lib.hid hF
      clear hF
      have S := Lib.hid (body_step ks k hlt)
      clear hk1
      by_cases h0 : k = 0
      · subst h0
        simp only [Nat.zero_mul, Nat.add_zero] at c0 c1 c2 c3 c4
        have X2 := Lib.hid (show (x ++ F).data.toList = 40 :: bodyL ((ks.take (0 + 1)).map formN) by
          rw [S.out, if_pos rfl, HFF.out]
          have := HX.out
          simp [bodyL] at this
          simp [this])
        go_wp2_with fail
        refine Calls.mono C.out ?_
        rintro e w2 ⟨rfl, hb⟩
        have HE := Lib.hid (HBr.out.trans (hb.mono HBr.out.size))
        clear hb
        go_wp2_with fail
        go_roundw
        case rel => exact ⟨0 + 1, _, by omega, by go_num, rfl, X2, HE⟩
        case measure => simp [intOf]; omega
      · have hpos : 0 < k := by omega
        have X2 := Lib.hid (show (x ++ ⟨#[44, 32]⟩ ++ F).data.toList = 40 :: bodyL ((ks.take (k + 1)).map formN) by
          rw [S.out, if_neg h0, HFF.out]
          have := HX.out
          simp [this])
        clear h0
        go_wp2_with fail
        refine Calls.mono C.out ?_
        rintro e w2 ⟨rfl, hb⟩
        have HE := Lib.hid (HBr.out.trans (hb.mono HBr.out.size))
        clear hb
        go_wp2_with fail
        go_roundw
        case rel => exact ⟨k + 1, _, by omega, by go_num, rfl, X2, HE⟩
        case measure => simp [intOf]; omega
    · have E := Lib.hid (show (x ++ ⟨#[41]⟩).data.toList = listL (ks.map formN) by
        rw [L.out]
        have := HX.out
        rw [List.take_of_length_le (by omega)] at this
        simp [this])
      go_wp2_with fail
      go_ret
      exact ⟨retS (bytes_of E.out), HBr.out⟩

end Go.Proofs.YtcndknkdhlmdnaaGreatDoor

/-
  usanceref09: a right expression's form.
-/
namespace Go.Proofs.YtcndknkdhlmdnaaGreatDoor
open Go.RowKit
set_option maxRecDepth 100000

theorem form_len_kid {t k : Nd} {d : Int} (h : rightN t d = true) (hk : k ∈ t.kids) : (formN k).length ≤ (formN t).length ∧ (partL k.kind (formN k)).length ≤ (formN t).length + 2 := by
  have : (formN k).length ≤ (formN t).length := by
    have hp := right_parts h
    have hm : formN k ∈ (formKs t.kids).map (·.2) := by rw [formKs_snd]; exact List.mem_map_of_mem hk
    have hl := body_mem _ _ hm
    have hll := list_len ((formKs t.kids).map (·.2))
    have hk0 : t.kids ≠ [] := by intro e; rw [e] at hk; cases hk
    have hkk := kids_kind hp.1
    have hpl : ∀ (kk : Int) (f : List UInt8), f.length ≤ (partL kk f).length := fun kk f => by unfold partL; split <;> simp; omega
    rcases (show (5 ≤ t.kind ∧ t.kind ≤ 10) ∨ t.kind = 11 ∨ t.kind = 12 ∨ t.kind = 13 ∨ t.kind = 14 ∨ t.kind = 15 by omega) with e | e | e | e | e | e
    · exact absurd (kids_0 h e) hk0
    · rw [form_eq' t]
      unfold formOf
      rw [if_neg (by omega), if_neg (by omega), if_neg (by omega), if_neg (by omega), if_pos e, List.length_append]; omega
    · obtain ⟨s, k', p, rfl, hs, hrk⟩ := right_una h e
      rw [List.mem_singleton.1 hk, form_una, List.length_append]
      have := hpl k'.kind (formN k')
      omega
    · obtain ⟨s, k', u, p, rfl, hs, hrk⟩ := right_bin h e
      rw [form_bin]
      have h1 := hpl k'.kind (formN k')
      have h2 := hpl u.kind (formN u)
      simp only [List.length_append, List.length_cons]
      rcases (by simpa [Nd.kids] using hk : k = k' ∨ k = u) with rfl | rfl <;> omega
    · obtain ⟨s, k', u, v, p, rfl, hs, hrk⟩ := right_if h e
      rw [form_if]
      simp only [List.length_append, List.length_cons]
      rcases (by simpa [Nd.kids] using hk : k = k' ∨ k = u ∨ k = v) with rfl | rfl | rfl <;> omega
    · rw [form_eq' t]
      unfold formOf
      rw [if_neg (by omega), if_neg (by omega), if_neg (by omega), if_neg (by omega), if_neg (by omega), if_pos e, List.length_append]; omega
  have h2 := partL_len k.kind (formN k)
  omega

set_option maxHeartbeats 4000000 in
theorem rform_leaf (t : Nd) (n₀ : Nat) (d : Int) (h : rightN t d = true) (hk : (5 ≤ t.kind ∧ t.kind ≤ 10)) : FormC n₀ t := by
  intro hl a cap w hh hn
  obtain ⟨h1, h2, h3, h4⟩ := right_parts h
  have hts : t.text.size ≤ 49 := by have := textOk_len h2; rwa [size_list] at this
  have F := Lib.hid (form_eq' t)
  have K := Lib.hid (kids_0 h hk)
  have HB := Lib.hid (nbelow1 w (.cells #[.int .i64 t.kind, .string t.text, .int .i64 t.n, .slice a t.kids.length cap, .int .i64 t.place] 24))
  have H3 := Lib.hid h3
  clear hh hl h h1 h2 h3 h4
  have q : ∀ v : Int, (t.kind == v) = decide (t.kind = v) := fun _ => rfl
  rcases (show t.kind = 5 ∨ t.kind = 6 ∨ t.kind = 8 ∨ t.kind = 9 ∨ (t.kind ≠ 5 ∧ t.kind ≠ 6 ∧ t.kind ≠ 8 ∧ t.kind ≠ 9) by omega) with e | e | e | e | e
  · have e1 : (t.kind == 5) = true := by rw [q, decide_eq_true e]
    have V := Lib.hid (show formN t = showI t.n by rw [F.out, e]; rfl)
    clear q e hk
    go_enter Tryz.func45, Tryz.ntmps45
    go_wp2_with fail
    refine Calls.mono (r1Show_any t.n _) ?_
    rintro e w2 ⟨rfl, rfl⟩
    go_wp2_with fail
    go_ret
    exact ⟨retS (by rw [V.out]), HB.out⟩
  · have e1 : (t.kind == 5) = false := by rw [q, decide_eq_false (by omega)]
    have e2 : (t.kind == 6) = true := by rw [q, decide_eq_true e]
    have hr : 0 ≤ t.n ∧ t.n ≤ 73048 := by
      have := H3.out
      unfold numOk at this
      rw [e] at this
      simpa using this
    obtain ⟨y, m, dd, ho, hnum, hte⟩ := dateT_of hr.1 hr.2
    have V := Lib.hid (show formN t = Cal.text y m dd by rw [F.out, e, ← hte]; rfl)
    have C := Lib.hid (rshow_ok y m dd t.n (w.alloc (.cells #[.int .i64 t.kind, .string t.text, .int .i64 t.n, .slice a t.kids.length cap, .int .i64 t.place] 24)) ho hnum)
    obtain ⟨hr1, hr2⟩ := hr
    clear q e hk ho hnum hte
    go_enter Tryz.func45, Tryz.ntmps45
    go_wp2_with fail
    refine Calls.mono C.out ?_
    rintro e w2 ⟨rfl, hb⟩
    have HC := Lib.hid (HB.out.trans (hb.mono HB.out.size))
    clear hb
    go_wp2_with fail
    go_ret
    exact ⟨retS (by rw [V.out]; rfl), HC.out⟩
  · have e1 : (t.kind == 5) = false := by rw [q, decide_eq_false (by omega)]
    have e2 : (t.kind == 6) = false := by rw [q, decide_eq_false (by omega)]
    have e3 : (t.kind == 8) = true := by rw [q, decide_eq_true e]
    have hr : t.n = 0 ∨ t.n = 1 := by
      have := H3.out
      unfold numOk at this
      rw [e] at this
      simpa using this
    have V := Lib.hid (show formN t = if t.n = 1 then [116, 114, 117, 101] else [102, 97, 108, 115, 101] by rw [F.out, e]; rfl)
    clear q e hk
    rcases hr with hr | hr
    all_goals
      have e0 := hr
      rw [hr] at V
      clear hr
      go_enter Tryz.func45, Tryz.ntmps45
      go_wp2_with fail
      go_ret
      exact ⟨retS (by rw [V.out]; rfl), (nbelow1 w _).trans ((nbelow1 _ _).mono (nbelow1 w _).size)⟩
  · have e1 : (t.kind == 5) = false := by rw [q, decide_eq_false (by omega)]
    have e2 : (t.kind == 6) = false := by rw [q, decide_eq_false (by omega)]
    have e3 : (t.kind == 8) = false := by rw [q, decide_eq_false (by omega)]
    have e4 : (t.kind == 9) = true := by rw [q, decide_eq_true e]
    have V := Lib.hid (show formN t = [102, 101, 101, 100, 32, 34] ++ t.text.data.toList ++ [34] by rw [F.out, e]; rfl)
    clear q e hk
    go_enter Tryz.func45, Tryz.ntmps45
    go_wp2_with fail
    go_ret
    exact ⟨retS (by rw [V.out]; exact bytes_of (by simp)), HB.out⟩
  · obtain ⟨g1, g2, g3, g4⟩ := e
    have e1 : (t.kind == 5) = false := by rw [q, decide_eq_false (by omega)]
    have e2 : (t.kind == 6) = false := by rw [q, decide_eq_false (by omega)]
    have e3 : (t.kind == 8) = false := by rw [q, decide_eq_false (by omega)]
    have e4 : (t.kind == 9) = false := by rw [q, decide_eq_false (by omega)]
    have e5 : (t.kind == 11) = false := by rw [q, decide_eq_false (by omega)]
    have e6 : (t.kind == 12) = false := by rw [q, decide_eq_false (by omega)]
    have e7 : (t.kind == 13) = false := by rw [q, decide_eq_false (by omega)]
    have e8 : (t.kind == 14) = false := by rw [q, decide_eq_false (by omega)]
    have e9 : (t.kind == 15) = false := by rw [q, decide_eq_false (by omega)]
    have V := Lib.hid (show formN t = t.text.data.toList by
      rw [F.out, K.out]
      unfold formOf
      rw [if_neg (by omega), if_neg (by omega), if_neg (by omega), if_neg (by omega), if_neg (by omega), if_neg (by omega)]; rfl)
    clear q g1 g2 g3 g4 hk
    go_enter Tryz.func45, Tryz.ntmps45
    go_wp2_with fail
    go_ret
    exact ⟨retS (by rw [V.out]), HB.out⟩

set_option maxHeartbeats 4000000 in
theorem rform_list (t : Nd) (n₀ : Nat) (d : Int) (h : rightN t d = true) (hk : t.kind = 11 ∨ t.kind = 15) (ih : ∀ k ∈ t.kids, FormC n₀ k) : FormC n₀ t := by
  intro hl a cap w hh hn
  obtain ⟨h1, h2, h3, h4⟩ := right_parts h
  have hts : t.text.size ≤ 49 := by have := textOk_len h2; rwa [size_list] at this
  have hkc := hh.bounds.2.2.2.2
  have HB := Lib.hid (nbelow1 w (.cells #[.int .i64 t.kind, .string t.text, .int .i64 t.n, .slice a t.kids.length cap, .int .i64 t.place] 24))
  have B0 := Lib.hid (Boxed.make w t a cap)
  have hll : (listL (t.kids.map formN)).length ≤ 1000000000000 := by
    rw [form_eq' t] at hl
    unfold formOf at hl
    rw [if_neg (by omega), if_neg (by omega), if_neg (by omega), if_neg (by omega), formKs_snd] at hl
    rcases hk with e | e
    · rw [if_pos e, List.length_append] at hl; omega
    · rw [if_neg (by omega), if_pos e, List.length_append] at hl; omega
  have hhs : ∀ cur, Below w.heap.size w cur → Nd.holds n₀ cur t.kids a 0 := fun cur hc => by
    cases t with
    | mk kind s n ks p => exact (hh.below (hc.mono hn)).2.2.2.2.2.2
  obtain ⟨F, hF⟩ : ∃ F : ByteArray, F = ⟨(listL (t.kids.map formN)).toArray⟩ := ⟨_, rfl⟩
  have hFs : F.size ≤ 1000000000000 := by rw [hF]; exact Nat.le_trans hll (by decide)
  have V := Lib.hid (show formN t = (if t.kind = 15 then [112, 105, 99, 107, 32, 34] ++ t.text.data.toList ++ [34] else t.text.data.toList) ++ F.data.toList by
    rw [form_eq' t, hF]
    unfold formOf
    rw [if_neg (by omega), if_neg (by omega), if_neg (by omega), if_neg (by omega), formKs_snd]
    rcases hk with e | e
    · rw [if_pos e, if_neg (by omega)]
    · rw [if_neg (by omega), if_pos e, if_pos e])
  have q : ∀ v : Int, (t.kind == v) = decide (t.kind = v) := fun _ => rfl
  have e1 : (t.kind == 5) = false := by rw [q, decide_eq_false (by omega)]
  have e2 : (t.kind == 6) = false := by rw [q, decide_eq_false (by omega)]
  have e3 : (t.kind == 8) = false := by rw [q, decide_eq_false (by omega)]
  have e4 : (t.kind == 9) = false := by rw [q, decide_eq_false (by omega)]
  have C0 := Lib.hid (show ∀ W1 cur, Below w.heap.size w W1 → Below W1.heap.size W1 cur → Calls Tryz.prog 44 #[.slice a t.kids.length cap] cur fun e W' => e = .returned (.string F) ∧ Below W1.heap.size W1 W' from fun W1 cur h0 hc =>
    (rlist_of t.kids n₀ ih a cap cur (hhs cur (h0.trans (hc.mono h0.size))) hkc.1 hkc.2 (Nat.le_trans hn (Nat.le_trans h0.size hc.size)) hll).mono (by rintro e W' ⟨rfl, hb⟩; exact ⟨by rw [hF], hc.trans (hb.mono hc.size)⟩))
  clear hh hl h h1 h2 h3 h4 ih hhs hF hll hkc
  rcases hk with e | e
  · have e5 : (t.kind == 11) = true := by rw [q, decide_eq_true e]
    have VV := Lib.hid (show formN t = t.text.data.toList ++ F.data.toList by rw [V.out, if_neg (by omega)])
    clear q e V
    have n1 : ¬ 9223372036854775807 < t.text.size + F.size := by omega
    have n2 : ¬ 9223372036854775807 < 6 + t.text.size := by omega
    have n3 : ¬ 9223372036854775807 < 6 + t.text.size + 1 := by omega
    have n4 : ¬ 9223372036854775807 < 6 + t.text.size + 1 + F.size := by omega
    go_enter Tryz.func45, Tryz.ntmps45
    go_wp2_with fail
    generalize hW : w.alloc (.cells #[.int .i64 t.kind, .string t.text, .int .i64 t.n, .slice a t.kids.length cap, .int .i64 t.place] 24) = W1 at HB B0 ⊢
    clear hW
    have HS := Lib.hid (show ∀ cur, Below W1.heap.size W1 cur → Below W1.heap.size W1 cur ∧ cur.cell? ⟨w.heap.size, 1, none⟩ = some (.string t.text) ∧ cur.cell? ⟨w.heap.size, 3, none⟩ = some (.slice a t.kids.length cap) from fun cur hc =>
      ⟨hc, (hc.cell (p := ⟨w.heap.size, 1, none⟩) B0.out.lt).trans B0.out.c1, (hc.cell (p := ⟨w.heap.size, 3, none⟩) B0.out.lt).trans B0.out.c3⟩)
    have hb := Below.refl W1.heap.size W1
    have C1 := Lib.hid fun cur hc => C0.out W1 cur HB.out hc
    clear C0
    go_region_held3 (fun cur => Below W1.heap.size W1 cur ∧ cur.cell? ⟨w.heap.size, 1, none⟩ = some (.string t.text) ∧ cur.cell? ⟨w.heap.size, 3, none⟩ = some (.slice a t.kids.length cap))
      (first | exact HS.out _ hb | exact HS.out _ hb.drew)
      (first | (go_at_call 44; refine (C1.out _ ?_).mono ?_; (go_split_ands; assumption); rintro e w' ⟨rfl, hb⟩))
    go_wp2_with fail
    go_ret
    exact ⟨retS (by rw [VV.out]; exact bytes_of (by simp)), HB.out.trans (hb.mono HB.out.size)⟩
  · have e5 : (t.kind == 11) = false := by rw [q, decide_eq_false (by omega)]
    have e6 : (t.kind == 15) = true := by rw [q, decide_eq_true e]
    have VV := Lib.hid (show formN t = [112, 105, 99, 107, 32, 34] ++ t.text.data.toList ++ [34] ++ F.data.toList by rw [V.out, if_pos e])
    clear q e V
    have n1 : ¬ 9223372036854775807 < t.text.size + F.size := by omega
    have n2 : ¬ 9223372036854775807 < 6 + t.text.size := by omega
    have n3 : ¬ 9223372036854775807 < 6 + t.text.size + 1 := by omega
    have n4 : ¬ 9223372036854775807 < 6 + t.text.size + 1 + F.size := by omega
    go_enter Tryz.func45, Tryz.ntmps45
    go_wp2_with fail
    generalize hW : w.alloc (.cells #[.int .i64 t.kind, .string t.text, .int .i64 t.n, .slice a t.kids.length cap, .int .i64 t.place] 24) = W1 at HB B0 ⊢
    clear hW
    have HS := Lib.hid (show ∀ cur, Below W1.heap.size W1 cur → Below W1.heap.size W1 cur ∧ cur.cell? ⟨w.heap.size, 1, none⟩ = some (.string t.text) ∧ cur.cell? ⟨w.heap.size, 3, none⟩ = some (.slice a t.kids.length cap) from fun cur hc =>
      ⟨hc, (hc.cell (p := ⟨w.heap.size, 1, none⟩) B0.out.lt).trans B0.out.c1, (hc.cell (p := ⟨w.heap.size, 3, none⟩) B0.out.lt).trans B0.out.c3⟩)
    have hb := Below.refl W1.heap.size W1
    have C1 := Lib.hid fun cur hc => C0.out W1 cur HB.out hc
    clear C0
    go_region_held3 (fun cur => Below W1.heap.size W1 cur ∧ cur.cell? ⟨w.heap.size, 1, none⟩ = some (.string t.text) ∧ cur.cell? ⟨w.heap.size, 3, none⟩ = some (.slice a t.kids.length cap))
      (first | exact HS.out _ hb | exact HS.out _ hb.drew)
      (first | (go_at_call 44; refine (C1.out _ ?_).mono ?_; (go_split_ands; assumption); rintro e w' ⟨rfl, hb⟩))
    go_wp2_with fail
    go_ret
    exact ⟨retS (by rw [VV.out]; exact bytes_of (by simp)), HB.out.trans (hb.mono HB.out.size)⟩

end Go.Proofs.YtcndknkdhlmdnaaGreatDoor

/-
  usanceref09: a right expression's form: signs, words, if.
-/
namespace Go.Proofs.YtcndknkdhlmdnaaGreatDoor
open Go.RowKit
set_option maxRecDepth 100000

theorem kid_cells {n₀ : Nat} {w : World} {t : Nd} {a : Option Addr} {cap : Nat} (hh : t.hold n₀ w a cap) (j : Nat) (hj : j < t.kids.length) : ∃ b off x cx, Nd.At n₀ w a j t.kids[j] b off x cx := hh.kid j hj

set_option maxHeartbeats 4000000 in
theorem rform_una (t : Nd) (n₀ : Nat) (d : Int) (h : rightN t d = true) (hk : t.kind = 12) (ih : ∀ k ∈ t.kids, FormC n₀ k) : FormC n₀ t := by
  obtain ⟨s, k, p, rfl, hs, hrk⟩ := right_una h hk
  intro hl a cap w hh hn
  have hlk := (form_len_kid h (k := k) (by simp [Nd.kids])).1
  have hlk2 : (formN k).length ≤ 1000000000000 := Nat.le_trans hlk hl
  obtain ⟨b, off, x, cx, A⟩ := hh.kid 0 (Nat.zero_lt_one)
  have A' : Nd.At n₀ w a 0 k b off x cx := A
  obtain ⟨rfl, hb0, c0, c1, c2, c3, c4, hk1⟩ := A'
  simp only [Nat.zero_mul, Nat.add_zero] at c0 c1 c2 c3 c4
  have hbw : b < w.heap.size := Nat.lt_of_lt_of_le hb0 hn
  have hkc := hh.bounds.2.2.2.2
  obtain ⟨F, hF⟩ : ∃ F : ByteArray, F = ⟨(partL k.kind (formN k)).toArray⟩ := ⟨_, rfl⟩
  have hFs : F.size ≤ 1000000000002 := by
    rw [hF]
    have := partL_len k.kind (formN k)
    show (partL k.kind (formN k)).length ≤ _
    omega
  have V := Lib.hid (show formN (.mk 12 s 0 [k] p) = (if s.data.toList = [45] then [45] else [110, 111, 116, 32]) ++ F.data.toList by rw [form_una, hF])
  have HB := Lib.hid (nbelow1 w (.cells #[.int .i64 12, .string s, .int .i64 0, .slice (some ⟨b, off, none⟩) 1 cap, .int .i64 p] 24))
  have C := Lib.hid ((rpart_of k n₀ (ih k (by simp [Nd.kids])) x cx _ (hk1.below (HB.out.mono hn)) (Nat.le_trans hn HB.out.size) hlk2))
  rw [← hF] at C
  clear hh hl h hrk ih hF hk1 hlk hlk2 A
  have d0 := (HB.out.cell (p := ⟨b, off, none⟩) hbw).trans c0
  have d1 := (HB.out.cell (p := ⟨b, off + 1, none⟩) hbw).trans c1
  have d2 := (HB.out.cell (p := ⟨b, off + 2, none⟩) hbw).trans c2
  have d3 := (HB.out.cell (p := ⟨b, off + 3, none⟩) hbw).trans c3
  have d4 := (HB.out.cell (p := ⟨b, off + 4, none⟩) hbw).trans c4
  clear c0 c1 c2 c3 c4
  show Calls Tryz.prog 45 #[.agg #[.int .i64 12, .string s, .int .i64 0, .slice (some ⟨b, off, none⟩) 1 cap, .int .i64 p]] w _
  by_cases e : s.toList = [45]
  · have e' : (s.toList == [45]) = true := by rw [e]; decide
    have VV := Lib.hid (show formN (.mk 12 s 0 [k] p) = [45] ++ F.data.toList by rw [V.out, if_pos (by rw [← Lib.toList_data]; exact e)])
    clear e V
    go_enter Tryz.func45, Tryz.ntmps45
    go_wp2_with fail
    refine Calls.mono C.out ?_
    rintro e w2 ⟨rfl, hb⟩
    have HC := Lib.hid (HB.out.trans (hb.mono HB.out.size))
    clear hb
    go_wp2_with fail
    go_ret
    exact ⟨retS (by rw [VV.out]; exact bytes_of (by simp)), HC.out⟩
  · have e' : (s.toList == [45]) = false := beq_eq_false_iff_ne.2 e
    have VV := Lib.hid (show formN (.mk 12 s 0 [k] p) = [110, 111, 116, 32] ++ F.data.toList by rw [V.out, if_neg (by rw [← Lib.toList_data]; exact e)])
    clear e V
    go_enter Tryz.func45, Tryz.ntmps45
    go_wp2_with fail
    refine Calls.mono C.out ?_
    rintro e w2 ⟨rfl, hb⟩
    have HC := Lib.hid (HB.out.trans (hb.mono HB.out.size))
    clear hb
    go_wp2_with fail
    go_ret
    exact ⟨retS (by rw [VV.out]; exact bytes_of (by simp)), HC.out⟩

set_option maxHeartbeats 8000000 in
theorem rform_bin (t : Nd) (n₀ : Nat) (d : Int) (h : rightN t d = true) (hk : t.kind = 13) (ih : ∀ k ∈ t.kids, FormC n₀ k) : FormC n₀ t := by
  have hts : t.text.size ≤ 49 := by have := textOk_len (right_parts h).2.1; rwa [size_list] at this
  obtain ⟨s, k, u, p, rfl, hs, hrk, hru⟩ := right_bin h hk
  replace hts : s.size ≤ 49 := hts
  intro hl a cap w hh hn
  have hlk2 : (formN k).length ≤ 1000000000000 := Nat.le_trans (form_len_kid h (k := k) (by simp [Nd.kids])).1 hl
  have hlu2 : (formN u).length ≤ 1000000000000 := Nat.le_trans (form_len_kid h (k := u) (by simp [Nd.kids])).1 hl
  obtain ⟨b, off, x, cx, A⟩ := hh.kid 0 (show 0 < 2 by decide)
  obtain ⟨b', off', y, cy, A1⟩ := hh.kid 1 (show 1 < 2 by decide)
  have A' : Nd.At n₀ w a 0 k b off x cx := A
  have A1' : Nd.At n₀ w a 1 u b' off' y cy := A1
  obtain ⟨rfl, hb0, c0, c1, c2, c3, c4, hk1⟩ := A'
  obtain ⟨ha, hb0', g0, g1, g2, g3, g4, hu1⟩ := A1'
  obtain ⟨rfl, rfl⟩ : b = b' ∧ off = off' := by injection ha with ha; injection ha with h1 h2; exact ⟨h1, h2⟩
  simp only [Nat.zero_mul, Nat.add_zero] at c0 c1 c2 c3 c4
  simp only [Nat.one_mul, Nat.add_assoc, Nat.reduceAdd] at g0 g1 g2 g3 g4
  have hbw : b < w.heap.size := Nat.lt_of_lt_of_le hb0 hn
  have hkc := hh.bounds.2.2.2.2
  obtain ⟨F, hF⟩ : ∃ F : ByteArray, F = ⟨(partL k.kind (formN k)).toArray⟩ := ⟨_, rfl⟩
  obtain ⟨G, hG⟩ : ∃ F : ByteArray, F = ⟨(partL u.kind (formN u)).toArray⟩ := ⟨_, rfl⟩
  have hFs : F.size ≤ 1000000000002 := by
    rw [hF]
    have := partL_len k.kind (formN k)
    show (partL k.kind (formN k)).length ≤ _
    omega
  have hGs : G.size ≤ 1000000000002 := by
    rw [hG]
    have := partL_len u.kind (formN u)
    show (partL u.kind (formN u)).length ≤ _
    omega
  have V := Lib.hid (show formN (.mk 13 s 0 [k, u] p) = F.data.toList ++ 32 :: (s.data.toList ++ 32 :: G.data.toList) by rw [form_bin, hF, hG])
  have HB := Lib.hid (nbelow1 w (.cells #[.int .i64 13, .string s, .int .i64 0, .slice (some ⟨b, off, none⟩) 2 cap, .int .i64 p] 24))
  have C0 := Lib.hid (show ∀ W1 cur, Below w.heap.size w W1 → Below W1.heap.size W1 cur → Calls Tryz.prog 70 #[.agg #[.int .i64 k.kind, .string k.text, .int .i64 k.n, .slice x k.kids.length cx, .int .i64 k.place]] cur fun e W' => e = .returned (.string F) ∧ Below W1.heap.size W1 W' from fun W1 cur h0 hc =>
    (rpart_of k n₀ (ih k (by simp [Nd.kids])) x cx cur (hk1.below ((h0.trans (hc.mono h0.size)).mono hn)) (Nat.le_trans hn (Nat.le_trans h0.size hc.size)) hlk2).mono (by rintro e W' ⟨rfl, hb⟩; exact ⟨by rw [hF], hc.trans (hb.mono hc.size)⟩))
  have E0 := Lib.hid (show ∀ W1 cur, Below w.heap.size w W1 → Below W1.heap.size W1 cur → Calls Tryz.prog 70 #[.agg #[.int .i64 u.kind, .string u.text, .int .i64 u.n, .slice y u.kids.length cy, .int .i64 u.place]] cur fun e W' => e = .returned (.string G) ∧ Below W1.heap.size W1 W' from fun W1 cur h0 hc =>
    (rpart_of u n₀ (ih u (by simp [Nd.kids])) y cy cur (hu1.below ((h0.trans (hc.mono h0.size)).mono hn)) (Nat.le_trans hn (Nat.le_trans h0.size hc.size)) hlu2).mono (by rintro e W' ⟨rfl, hb⟩; exact ⟨by rw [hG], hc.trans (hb.mono hc.size)⟩))
  clear hh hl h hrk hru ih hF hG hk1 hu1 hlk2 hlu2 A A1 ha hb0'
  have HCL := Lib.hid (show ∀ W1 cur, Below w.heap.size w W1 → Below W1.heap.size W1 cur → cur.cell? ⟨b, off, none⟩ = some (.int .i64 k.kind) ∧ cur.cell? ⟨b, off + 1, none⟩ = some (.string k.text) ∧ cur.cell? ⟨b, off + 2, none⟩ = some (.int .i64 k.n) ∧ cur.cell? ⟨b, off + 3, none⟩ = some (.slice x k.kids.length cx) ∧ cur.cell? ⟨b, off + 4, none⟩ = some (.int .i64 k.place) ∧
      cur.cell? ⟨b, off + 5, none⟩ = some (.int .i64 u.kind) ∧ cur.cell? ⟨b, off + 6, none⟩ = some (.string u.text) ∧ cur.cell? ⟨b, off + 7, none⟩ = some (.int .i64 u.n) ∧ cur.cell? ⟨b, off + 8, none⟩ = some (.slice y u.kids.length cy) ∧ cur.cell? ⟨b, off + 9, none⟩ = some (.int .i64 u.place) from fun W1 cur h0 hc => by
    have hB := h0.trans (hc.mono h0.size)
    exact ⟨(hB.cell (p := ⟨b, off, none⟩) hbw).trans c0, (hB.cell (p := ⟨b, off + 1, none⟩) hbw).trans c1, (hB.cell (p := ⟨b, off + 2, none⟩) hbw).trans c2, (hB.cell (p := ⟨b, off + 3, none⟩) hbw).trans c3, (hB.cell (p := ⟨b, off + 4, none⟩) hbw).trans c4,
      (hB.cell (p := ⟨b, off + 5, none⟩) hbw).trans g0, (hB.cell (p := ⟨b, off + 6, none⟩) hbw).trans g1, (hB.cell (p := ⟨b, off + 7, none⟩) hbw).trans g2, (hB.cell (p := ⟨b, off + 8, none⟩) hbw).trans g3, (hB.cell (p := ⟨b, off + 9, none⟩) hbw).trans g4⟩)
  clear c0 c1 c2 c3 c4 g0 g1 g2 g3 g4 hbw hb0
  show Calls Tryz.prog 45 #[.agg #[.int .i64 13, .string s, .int .i64 0, .slice (some ⟨b, off, none⟩) 2 cap, .int .i64 p]] w _
  have B0 := Lib.hid (Boxed.make w (.mk 13 s 0 [k, u] p) (some ⟨b, off, none⟩) cap)
  have n1 : ¬ 9223372036854775807 < F.size + 1 := by omega
  have n2 : ¬ 9223372036854775807 < F.size + 1 + s.size := by omega
  have n3 : ¬ 9223372036854775807 < F.size + 1 + s.size + 1 := by omega
  have n4 : ¬ 9223372036854775807 < F.size + 1 + s.size + 1 + G.size := by omega
  go_enter Tryz.func45, Tryz.ntmps45
  go_wp2_with fail
  generalize hW : w.alloc (.cells #[.int .i64 13, .string s, .int .i64 0, .slice (some ⟨b, off, none⟩) 2 cap, .int .i64 p] 24) = W1 at HB ⊢
  have HX := Lib.hid (show Boxed w.heap.size (.mk 13 s 0 [k, u] p) (some ⟨b, off, none⟩) cap W1 from hW ▸ B0.out)
  clear hW B0
  have hb := Below.refl W1.heap.size W1
  have HS := Lib.hid (show ∀ cur, Below W1.heap.size W1 cur → Below W1.heap.size W1 cur ∧ cur.cell? ⟨w.heap.size, 1, none⟩ = some (.string s) ∧ cur.cell? ⟨w.heap.size, 3, none⟩ = some (.slice (some ⟨b, off, none⟩) 2 cap) ∧ cur.cell? ⟨b, off, none⟩ = some (.int .i64 k.kind) ∧ cur.cell? ⟨b, off + 1, none⟩ = some (.string k.text) ∧ cur.cell? ⟨b, off + 2, none⟩ = some (.int .i64 k.n) ∧ cur.cell? ⟨b, off + 3, none⟩ = some (.slice x k.kids.length cx) ∧ cur.cell? ⟨b, off + 4, none⟩ = some (.int .i64 k.place) ∧
      cur.cell? ⟨b, off + 5, none⟩ = some (.int .i64 u.kind) ∧ cur.cell? ⟨b, off + 6, none⟩ = some (.string u.text) ∧ cur.cell? ⟨b, off + 7, none⟩ = some (.int .i64 u.n) ∧ cur.cell? ⟨b, off + 8, none⟩ = some (.slice y u.kids.length cy) ∧ cur.cell? ⟨b, off + 9, none⟩ = some (.int .i64 u.place) from fun cur hc =>
    ⟨hc, (hc.cell (p := ⟨w.heap.size, 1, none⟩) HX.out.lt).trans HX.out.c1, (hc.cell (p := ⟨w.heap.size, 3, none⟩) HX.out.lt).trans HX.out.c3, HCL.out W1 cur HB.out hc⟩)
  have C1 := Lib.hid fun cur hc => C0.out W1 cur HB.out hc
  have E1 := Lib.hid fun cur hc => E0.out W1 cur HB.out hc
  clear C0 E0 HCL
  go_region_held3 (fun cur => Below W1.heap.size W1 cur ∧ cur.cell? ⟨w.heap.size, 1, none⟩ = some (.string s) ∧ cur.cell? ⟨w.heap.size, 3, none⟩ = some (.slice (some ⟨b, off, none⟩) 2 cap) ∧ cur.cell? ⟨b, off, none⟩ = some (.int .i64 k.kind) ∧ cur.cell? ⟨b, off + 1, none⟩ = some (.string k.text) ∧ cur.cell? ⟨b, off + 2, none⟩ = some (.int .i64 k.n) ∧ cur.cell? ⟨b, off + 3, none⟩ = some (.slice x k.kids.length cx) ∧ cur.cell? ⟨b, off + 4, none⟩ = some (.int .i64 k.place) ∧
      cur.cell? ⟨b, off + 5, none⟩ = some (.int .i64 u.kind) ∧ cur.cell? ⟨b, off + 6, none⟩ = some (.string u.text) ∧ cur.cell? ⟨b, off + 7, none⟩ = some (.int .i64 u.n) ∧ cur.cell? ⟨b, off + 8, none⟩ = some (.slice y u.kids.length cy) ∧ cur.cell? ⟨b, off + 9, none⟩ = some (.int .i64 u.place))
    (first | exact HS.out _ hb | exact HS.out _ hb.drew)
    (first | (go_at_call 70; ((with_reducible refine (C1.out _ ?_).mono ?_); (go_split_ands; assumption); rintro e w' ⟨rfl, hb⟩)) | (go_at_call 70; ((with_reducible refine (E1.out _ ?_).mono ?_); (go_split_ands; assumption); rintro e w' ⟨rfl, hb⟩)))
  all_goals
    go_wp2_with fail
    go_ret
    exact ⟨retS (by rw [V.out]; exact bytes_of (by simp)), HB.out.trans (hb.mono HB.out.size)⟩

end Go.Proofs.YtcndknkdhlmdnaaGreatDoor
