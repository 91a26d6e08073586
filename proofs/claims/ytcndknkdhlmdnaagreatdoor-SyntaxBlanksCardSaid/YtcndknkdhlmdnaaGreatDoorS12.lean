/-
  Texts that the statements' proofs rest on, one behind another: ParV, ShownW, NumP, SxD, SxE.
-/
import Derived.Test.YtcndknkdhlmdnaaGreatDoorS11
import Derived.Test.YtcndknkdhlmdnaaGreatDoorS09
import Derived.Test.YtcndknkdhlmdnaaGreatDoorS06
import Derived.Test.YtcndknkdhlmdnaaGreatDoorS03
import Derived.Laws.RangeString
import Derived.Lib.OthersKept
import Derived.ScopeJumps
import Derived.WalkMore
import Derived.Test.YtcndknkdhlmdnaaGreatDoorS01

/-
  usanceref07: a text as an expression.
-/
namespace Go.Proofs.YtcndknkdhlmdnaaGreatDoor
open Go.RowKit
set_option maxRecDepth 100000

theorem below_grownP {w W : World} {P : Nat} (h : w.grownBy W (some P)) (hP : w.heap.size ≤ P) : Below w.heap.size w W := ⟨h.os, h.tape, h.output, h.size, fun k hk => h.block k hk (fun e => by have := Option.some.inj e; omega)⟩
theorem gdrew {w W : World} {r : Option Nat} (h : w.grownBy W r) : w.grownBy W.drew r := ⟨h.os, h.tape, h.output, h.size, h.block⟩
end Go.Proofs.YtcndknkdhlmdnaaGreatDoor

/-
  usancelaw09's shown, walked.
-/
namespace Go.Proofs.YtcndknkdhlmdnaaGreatDoor
open Go.RowKit
set_option maxRecDepth 100000

theorem shown_expr : exprR shownL = .ok shownN := by
  unfold exprR
  rw [shown_scan]
  show endX (rd .expr 0 shownK) = _
  rw [shown_read]
  rfl
end Go.Proofs.YtcndknkdhlmdnaaGreatDoor

/-
  The program's num.Parse.
-/
namespace Go.Proofs.YtcndknkdhlmdnaaGreatDoor
open Go.RowKit Go.Shelf
set_option maxRecDepth 100000

def digS : ByteArray := ⟨#[48, 49, 50, 51, 52, 53, 54, 55, 56, 57]⟩
theorem dig_ascii : ∀ (j : Nat) (b : UInt8), digS.data.toList[j]? = some b → b.toNat < 128 := ascii_of_all (by decide)
theorem dig_set (c : UInt8) : digS.data.toList.contains c = dgC c := by
  have := u8_all (p := fun c => digS.data.toList.contains c == dgC c) (by decide +kernel) c
  simpa using this
set_option maxHeartbeats 400000 in
theorem qisDigits_any (s : ByteArray) (w : World) (hs : s.size ≤ maxLen) :
    Calls Tryz.prog 205 #[.string s] w fun e w' => e = .returned (.bool (digL s.data.toList)) ∧ Below w.heap.size w w' := by
  have e := Lib.hid (show (Lib.trimS s.data.toList digS.data.toList).isEmpty = s.data.toList.all dgC by rw [trim_empty]; exact List.all_congr rfl fun a => dig_set a)
  by_cases h0 : 0 < s.size
  · have hne : ¬ s.toList = [] := fun e => by have := size_list s; rw [← Lib.toList_data, e] at this; simp at this; omega
    have hne' : s.toList.isEmpty = false := by cases h : s.toList with | nil => exact absurd h hne | cons a l => rfl
    have F := Lib.hid (show digL s.data.toList = (Lib.trimS s.data.toList digS.data.toList).isEmpty by unfold digL; rw [e.out, ← Lib.toList_data, hne']; rfl)
    go_enter Tryz.func205, Tryz.ntmps205
    go_wp2_with (go_at_call 171; refine (trim_any _ _ _ hs (by decide) dig_ascii).mono ?_; rintro e w' ⟨rfl, hb⟩)
    go_ret
    exact ⟨nretB F.out.symm, hb⟩
  · have h1 := empty_str h0
    subst h1
    go_enter Tryz.func205, Tryz.ntmps205
    go_wp2_with (go_at_call 171; refine (trim_any _ _ _ hs (by decide) dig_ascii).mono ?_; rintro e w' ⟨rfl, hb⟩)
    go_ret
    exact ⟨rfl, Below.refl _ _⟩
/-- so many noughts -/
theorem zeros_any (k : Nat) (hk : k ≤ 6) (w : World) :
    Calls Tryz.prog 206 #[.string ⟨#[48]⟩, .int .i64 k] w fun e w' => e = .returned (.string ⟨(List.replicate k 48).toArray⟩) ∧ Below w.heap.size w w' := by
  by_cases h2 : 2 ≤ k
  · refine (Tryz.strings_Repeat_main ⟨#[48]⟩ k w h2 (by omega) (by show 1 * k ≤ _; omega) (by decide)).mono ?_
    rintro e w' ⟨rfl, hb⟩
    refine ⟨?_, hb⟩
    have : Lib.repeatL [48] k = List.replicate k 48 := by
      match k, hk with
      | 0, _ => rfl
      | 1, _ => rfl
      | 2, _ => rfl
      | 3, _ => rfl
      | 4, _ => rfl
      | 5, _ => rfl
      | 6, _ => rfl
    rw [show (⟨#[48]⟩ : ByteArray).data.toList = [48] from rfl, this]
  · obtain rfl | rfl : k = 0 ∨ k = 1 := by omega
    · refine (Tryz.strings_Repeat_zero ⟨#[48]⟩ w).mono ?_
      rintro e w' ⟨rfl, rfl⟩
      exact ⟨rfl, Below.refl _ _⟩
    · refine (Tryz.strings_Repeat_one ⟨#[48]⟩ w).mono ?_
      rintro e w' ⟨rfl, rfl⟩
      exact ⟨rfl, Below.refl _ _⟩
theorem cut_lens (l : List UInt8) : (Lib.cut l [46]).1.length + (Lib.cut l [46]).2.1.length ≤ l.length := by
  cases h : (Lib.cut l [46]).2.2 with
  | false => rw [cut_none h]; simp
  | true =>
    have := congrArg List.length (cut_pt h)
    rw [List.length_append, List.length_cons] at this
    omega
/-- what a reading of a number hands back -/
def NumB (r : Option Int) (w : World) (e : Ending) (w' : World) : Prop :=
  Below w.heap.size w w' ∧ match r with
    | some v => e = .returned (.tuple #[.int .i64 v, .bool true])
    | none => e = .returned (.tuple #[.int .i64 0, .bool false])
theorem numB_no {r : Option Int} {w w' : World} (h : r = none) (hb : Below w.heap.size w w') : NumB r w (.returned (.tuple #[.int .i64 0, .bool false])) w' := by subst h; exact ⟨hb, rfl⟩
theorem numB_yes {r : Option Int} {w w' : World} {v u : Int} (h : r = some v) (hu : u = v) (hb : Below w.heap.size w w') : NumB r w (.returned (.tuple #[.int .i64 u, .bool true])) w' := by subst h hu; exact ⟨hb, rfl⟩
/-- a number, by the sign ahead and what is cut -/
def numZ (below : Bool) (c : Option Int) : Option Int := match c with
  | some n => if 1000000000000000 < n ∨ (below = true ∧ n = 0) then none else some (if below = true then -n else n)
  | none => none
theorem numP_cut (l : List UInt8) : numP l = numZ (Lib.hasPrefix l [45]) (numQ (Lib.cut (Lib.trimPrefix l [45]) [46])) := by
  rw [← numU_cut]
  unfold numP Lib.trimPrefix Lib.hasPrefix
  cases l with
  | nil => rfl
  | cons c r =>
    have e : [45].isPrefixOf (c :: r) = (45 == c) := by rw [List.isPrefixOf, List.isPrefixOf, Bool.and_true]
    rw [e]
    by_cases hc : c = 45
    · subst hc
      show (match numU r with | some n => if 1000000000000000 < n ∨ n = 0 then none else some (-n) | none => none) = numZ true (numU r)
      cases numU r with
      | none => rfl
      | some n =>
        show (if 1000000000000000 < n ∨ n = 0 then none else some (-n)) = (if 1000000000000000 < n ∨ (true = true ∧ n = 0) then none else some (if true = true then -n else n))
        simp only [true_and, if_true]
    · have h45 : (45 == c) = false := beq_eq_false_iff_ne.2 fun e => hc e.symm
      rw [List.headD_cons, if_neg hc, h45]
      show _ = numZ false (numU (c :: r))
      cases numU (c :: r) with
      | none => rfl
      | some n =>
        show (if 1000000000000000 < n then none else some n) = (if 1000000000000000 < n ∨ (false = true ∧ n = 0) then none else some (if false = true then -n else n))
        simp only [Bool.false_eq_true, false_and, or_false, if_false]
theorem zero_rep (k : Nat) : (List.replicate k (48 : UInt8)).all dgC = true := List.all_eq_true.2 fun c hc => by rw [List.eq_of_mem_replicate hc]; decide
theorem take_val {z : ByteArray} {k : Nat} (h : k < z.size) : Cal.val (z.data.toList.take (k + 1)) = 10 * Cal.val (z.data.toList.take k) + ((z[k].toNat : Int) - 48) := by
  rw [List.take_succ_eq_append_getElem (by rw [size_list]; exact h), Cal.val_snoc]; rfl
set_option maxHeartbeats 4000000 in
theorem qnumParse_any (s : ByteArray) (w : World) (hs : s.size ≤ 16384) : Calls Tryz.prog 180 #[.string s] w (NumB (numP s.data.toList) w) := by
  have hz : s.data.toList.length = s.size := size_list s
  have R := Lib.hid (numP_cut s.data.toList)
  obtain ⟨t, ht⟩ : ∃ t : ByteArray, t = ⟨(Lib.trimPrefix s.data.toList [45]).toArray⟩ := ⟨_, rfl⟩
  have htl : t.data.toList = Lib.trimPrefix s.data.toList [45] := by rw [ht]
  have hts : t.size ≤ 16384 := by
    rw [← size_list, htl]
    unfold Lib.trimPrefix
    split
    · rw [List.length_drop]; omega
    · omega
  rw [← htl] at R
  have C1 := Lib.hid (Tryz.strings_CutPrefix s ⟨#[45]⟩ w)
  rw [show (⟨#[45]⟩ : ByteArray).data.toList = [45] from rfl, ← ht] at C1
  generalize Lib.hasPrefix s.data.toList [45] = below at R C1
  generalize numP s.data.toList = N at R ⊢
  have C2 := Lib.hid (cut_any t w (Nat.le_trans hts (by decide)))
  have hcut := cut_lens t.data.toList
  rw [size_list] at hcut
  rcases hc : Lib.cut t.data.toList [46] with ⟨a, b, pt⟩
  rw [hc] at C2 R hcut
  replace hcut : a.length + b.length ≤ t.size := hcut
  replace R := Lib.hid (show N = numZ below (numQ (a, b, pt)) from R.out)
  obtain ⟨A, hA⟩ : ∃ A : ByteArray, A = ⟨a.toArray⟩ := ⟨_, rfl⟩
  obtain ⟨B, hB⟩ : ∃ B : ByteArray, B = ⟨b.toArray⟩ := ⟨_, rfl⟩
  have hAl : A.data.toList = a := by rw [hA]
  have hBl : B.data.toList = b := by rw [hB]
  have hAs : A.size ≤ 16384 := by rw [← size_list, hAl]; omega
  have hBs : B.size ≤ 16384 := by rw [← size_list, hBl]; omega
  replace C2 := Lib.hid (show Calls Tryz.prog 142 #[.string t, .string ⟨#[46]⟩] w fun e w' => e = .returned (.tuple #[.string A, .string B, .bool pt]) ∧ Below w.heap.size w w' by rw [hA, hB]; exact C2.out)
  have HBE := Lib.hid (show pt = false → B.data.toList = [] from fun e => by
    have := cut_none (l := t.data.toList) (by rw [hc]; exact e)
    rw [hc] at this
    rw [hBl]
    exact (Prod.mk.inj (Prod.mk.inj this).2).1)
  subst hAl hBl
  clear hc hcut hA hB ht htl hz hs hts
  have LA := Lib.hid (size_list A)
  have LB := Lib.hid (size_list B)
  go_enter Tryz.func180, Tryz.ntmps180
  go_wp2_with fail
  (with_reducible refine Calls.mono C1.out ?_)
  rintro e w0 ⟨rfl, hw0⟩
  rw [hw0]
  clear C1 hw0 w0
  go_wp2_with fail
  (with_reducible refine Calls.mono C2.out ?_)
  rintro e w1 ⟨rfl, hb⟩
  have HB := Lib.hid hb
  clear hb C2
  have C3 := Lib.hid (qisDigits_any A w1 (Nat.le_trans hAs (by decide)))
  cases hd : digL A.data.toList
  case false =>
    have X := Lib.hid (show N = none by rw [R.out]; unfold numQ wholeOk; rw [hd]; rfl)
    rw [hd] at C3
    clear hd
    go_wp2_with fail
    (with_reducible refine Calls.mono C3.out ?_)
    rintro e w2 ⟨rfl, hb⟩
    have HC := Lib.hid (HB.out.trans (hb.mono HB.out.size))
    clear hb C3
    go_wp2_with fail
    go_ret2
    exact numB_no X.out HC.out
  have HD := Lib.hid hd
  rw [hd] at C3
  clear hd
  go_wp2_with fail
  (with_reducible refine Calls.mono C3.out ?_)
  rintro e w2 ⟨rfl, hb⟩
  replace HB := Lib.hid (HB.out.trans (hb.mono HB.out.size))
  clear hb C3
  by_cases h10 : 10 < A.size
  · have X := Lib.hid (show N = none by rw [R.out]; unfold numQ wholeOk; rw [LA.out, decide_eq_true h10]; simp; rfl)
    have h10' : (10 : Int) < A.size := by omega
    clear h10
    go_wp2_with fail
    go_ret2
    exact numB_no X.out HB.out
  have hA0 : 0 < A.size := by
    rcases Nat.eq_zero_or_pos A.size with h | h
    · have e : A.data.toList = [] := List.eq_nil_of_length_eq_zero (by rw [LA.out]; exact h)
      have := HD.out
      rw [e] at this
      exact absurd this (by decide)
    · exact h
  have HH := Lib.hid (head_list hA0)
  by_cases h48 : 1 < A.size ∧ (A[0].toNat : Int) = 48
  · obtain ⟨h1, h2⟩ := h48
    have q : ((A[0].toNat : Int) == 48) = true := by rw [h2]; rfl
    have e0 : A[0] = 48 := UInt8.toNat_inj.1 (Int.ofNat.inj h2)
    have X := Lib.hid (show N = none by rw [R.out]; unfold numQ wholeOk; rw [LA.out, decide_eq_true h1, HH.out, e0]; simp; rfl)
    clear h2 e0
    go_wp2_with fail
    go_ret2
    exact numB_no X.out HB.out
  have HW := Lib.hid (show wholeOk A.data.toList = true by
    unfold wholeOk
    rw [HD.out, LA.out, decide_eq_false h10, HH.out]
    by_cases h1 : 1 < A.size
    · have : ¬ A[0] = 48 := fun e => h48 ⟨h1, by rw [e]; rfl⟩
      rw [beq_eq_false_iff_ne.2 this]; simp
    · rw [decide_eq_false h1]; rfl)
  have h1or : (1 < A.size ∧ ((A[0].toNat : Int) == 48) = false) ∨ ¬ 1 < A.size := by
    by_cases h1 : 1 < A.size
    · exact .inl ⟨h1, beq_eq_false_iff_ne.2 fun e => h48 ⟨h1, e⟩⟩
    · exact .inr h1
  have hbig : A.size + B.size ≤ 32768 := by omega
  have h10i : ¬ (10 : Int) < A.size := by omega
  have hA10 : A.size ≤ 10 := by omega
  clear h10 h48
  rcases h1or with ⟨h1, q⟩ | h1
  all_goals
    cases pt
    case' true =>
      have C4 := Lib.hid (qisDigits_any B w2 (Nat.le_trans hBs (by decide)))
      cases hd2 : digL B.data.toList
      case false =>
        have X := Lib.hid (show N = none by rw [R.out]; unfold numQ tailOk; rw [hd2]; simp; rfl)
        rw [hd2] at C4
        clear hd2
        go_wp2_with fail
        (with_reducible refine Calls.mono C4.out ?_)
        rintro e w3 ⟨rfl, hb⟩
        have HC := Lib.hid (HB.out.trans (hb.mono HB.out.size))
        clear hb C4
        go_wp2_with fail
        go_ret2
        exact numB_no X.out HC.out
      have HD2 := Lib.hid hd2
      rw [hd2] at C4
      clear hd2
      by_cases h6 : 6 < B.size
      case pos =>
        have X := Lib.hid (show N = none by rw [R.out]; unfold numQ tailOk; rw [LB.out, decide_eq_true h6]; simp; rfl)
        have h6' : (6 : Int) < B.size := by omega
        clear h6
        go_wp2_with fail
        (with_reducible refine Calls.mono C4.out ?_)
        rintro e w3 ⟨rfl, hb⟩
        have HC := Lib.hid (HB.out.trans (hb.mono HB.out.size))
        clear hb C4
        go_wp2_with fail
        go_ret2
        exact numB_no X.out HC.out
      have h6' : ¬ (6 : Int) < B.size := by omega
      have h6n : B.size ≤ 6 := by omega
      clear h6
      have HT := Lib.hid (show tailOk true B.data.toList = true by unfold tailOk; rw [HD2.out, LB.out, decide_eq_false (by omega)]; rfl)
      have HBd := Lib.hid (show B.data.toList.all dgC = true by have := HD2.out; unfold digL at this; rw [Bool.and_eq_true] at this; exact this.2)
      go_upto_region 8 with (first | ((with_reducible refine Calls.mono C4.out ?_); rintro e w3 ⟨rfl, hb⟩))
      replace HB := Lib.hid (HB.out.trans (hb.mono HB.out.size))
      clear hb C4 HD2
    case' false =>
      have hbe := HBE.out rfl
      have h6n : B.size ≤ 6 := by rw [← LB.out, hbe]; decide
      have HT := Lib.hid (show tailOk false B.data.toList = true from rfl)
      have HBd := Lib.hid (show B.data.toList.all dgC = true by rw [hbe]; rfl)
      clear hbe
      go_upto_region 8 with fail
    all_goals
      clear HBE
      have X := Lib.hid (show N = numZ below (some (valQ A.data.toList B.data.toList)) by rw [R.out]; unfold numQ; rw [if_pos ⟨HW.out, HT.out⟩])
      have CZ := Lib.hid (fun v : World => zeros_any (6 - B.size) (by omega) v)
      rw [show ((6 - B.size : Nat) : Int) = 6 - (B.size : Int) by omega] at CZ
      obtain ⟨Z, hZ⟩ : ∃ Z : ByteArray, Z = ⟨(List.replicate (6 - B.size) 48).toArray⟩ := ⟨_, rfl⟩
      rw [← hZ] at CZ
      have hZl : Z.data.toList = List.replicate (6 - B.size) 48 := by rw [hZ]
      have hZs : Z.size = 6 - B.size := by rw [← size_list, hZl, List.length_replicate]
      have hs1 : ¬ 9223372036854775807 < A.size + B.size := by omega
      have hs2 : ¬ 9223372036854775807 < (A ++ B).size + Z.size := by rw [ByteArray.size_append]; omega
      have HS := Lib.hid (show (A ++ B ++ Z).data.toList = A.data.toList ++ B.data.toList ++ List.replicate (6 - B.data.toList.length) 48 by
        rw [ByteArray.data_append, ByteArray.data_append, Array.toList_append, Array.toList_append, hZl, LB.out])
      have hsz : (A ++ B ++ Z).size ≤ 16 := by rw [ByteArray.size_append, ByteArray.size_append]; omega
      clear hZ hZl hZs
      go_wp2_with fail
      (with_reducible refine Calls.mono (CZ.out _) ?_)
      rintro e w4 ⟨rfl, hb⟩
      replace HB := Lib.hid (HB.out.trans (hb.mono HB.out.size))
      clear hb CZ
      have HDz := Lib.hid (show (A ++ B ++ Z).data.toList.all dgC = true by rw [HS.out, List.all_append, List.all_append, HBd.out, zero_rep]; have := HD.out; unfold digL at this; rw [Bool.and_eq_true] at this; rw [this.2]; rfl)
      go_wp2_with fail
      have HV := Lib.hid (show valQ A.data.toList B.data.toList = Cal.val (A ++ B ++ Z).data.toList by rw [HS.out]; rfl)
      have HZL := Lib.hid (size_list (A ++ B ++ Z))
      have hk0 := World.iter_heap w4 (A ++ B ++ Z) 0
      have hlt4 : w4.heap.size < (w4.iter (A ++ B ++ Z) 0).heap.size := by show _ < (w4.heap.push _).size; simp
      have hb0 : Below w.heap.size w (w4.iter (A ++ B ++ Z) 0) := HB.out.alloc HB.out.size _
      have hit := HB.out.size
      generalize w4.iter (A ++ B ++ Z) 0 = W5 at hk0 hb0 hlt4 ⊢
      generalize w4.heap.size = it at hk0 hit hlt4 ⊢
      clear HS hs1 hs2
      generalize (A ++ B ++ Z) = z at hk0 hsz HDz HV HZL ⊢
      have HK0 := Lib.hid hk0
      have HB0 := Lib.hid hb0
      clear hk0 hb0
      go_loopw [9] (fun n wr => ∃ k : Nat, k ≤ z.size ∧ n = .int .i64 (Cal.val (z.data.toList.take k)) ∧ Hid (wr.heap[it]? = some (.stringIter z k)) ∧ Hid (Below w.heap.size w wr)) (fun _ wr => z.size - wr.iterPos it)
      case atStart => exact ⟨0, Nat.zero_le _, rfl, HK0, HB0⟩
      case round =>
        obtain ⟨k, hk, rfl, HK, HBr⟩ := hrel
        have hvb := val_le (l := z.data.toList.take k) (n := 16) (by
          refine List.all_eq_true.2 fun c hc => List.all_eq_true.1 HDz.out c (List.mem_of_mem_take hc)) (by rw [List.length_take, HZL.out]; omega)
        have hvb1 : 0 ≤ Cal.val (z.data.toList.take k) := hvb.1
        have hvb2 : Cal.val (z.data.toList.take k) < 10000000000000000 := hvb.2
        have hmu := Lib.hid (show wr.iterPos it = k by simp [World.iterPos, HK.out])
        clear hvb
        by_cases hp : k < z.size
        · have hdz : dgC z[k] = true := List.all_eq_true.1 HDz.out _ (by rw [show z[k] = z.data.toList[k]'(by rw [HZL.out]; exact hp) from rfl]; exact List.getElem_mem _)
          have hd1 : 48 ≤ (z[k].toNat : Int) ∧ (z[k].toNat : Int) ≤ 57 := by
            unfold dgC at hdz; rw [Bool.and_eq_true, decide_eq_true_eq, decide_eq_true_eq] at hdz; omega
          obtain ⟨hd2, hd3⟩ := hd1
          have hnext : ∀ ty, (Instr.next (.pointer (some ⟨it, 0, none⟩)) true ty).run Tryz.prog wr = _ := fun ty => Lib.run_next_ascii_at wr it z k ty HK.out hp (by omega)
          have HK1 := Lib.hid (Lib.iterAt_heap wr it z k (k + 1) HK.out)
          have HB1 := Lib.hid (Lib.below_iterAt HBr.out hit z (k + 1))
          have HV1 := Lib.hid (take_val hp)
          generalize wr.iterAt it z (k + 1) = W6 at hnext HK1 HB1
          clear hdz
          go_wp2_with fail
          go_roundw
          case rel => exact ⟨k + 1, by omega, by rw [HV1.out], HK1, HB1⟩
          case measure =>
            have : W6.iterPos it = k + 1 := by simp [World.iterPos, HK1.out]
            rw [hmu.out, this]; omega
        · obtain rfl : k = z.size := by omega
          have hnext : ∀ ty, (Instr.next (.pointer (some ⟨it, 0, none⟩)) true ty).run Tryz.prog wr = _ := fun ty => Lib.run_next_end_at wr it z z.size ty HK.out hp
          have HVV := Lib.hid (show valQ A.data.toList B.data.toList = Cal.val (z.data.toList.take z.size) by rw [HV.out, List.take_of_length_le (by rw [HZL.out]; exact Nat.le_refl _)])
          generalize Cal.val (z.data.toList.take z.size) = v at hvb1 hvb2 HVV
          rw [HVV.out] at X
          clear HVV HV
          by_cases hmx : 1000000000000000 < v
          · have Y := Lib.hid (show N = none by rw [X.out]; show (if _ then _ else _) = _; rw [if_pos (.inl hmx)])
            go_wp2_with fail
            go_ret2
            exact numB_no Y.out HBr.out
          cases below
          · have Y := Lib.hid (show N = some v by rw [X.out]; show (if _ then _ else _) = _; rw [if_neg (by rintro (h | h); exact hmx h; exact absurd h.1 (by decide))]; rfl)
            go_wp2_with fail
            go_ret2
            exact numB_yes Y.out rfl HBr.out
          · by_cases h0 : v = 0
            · have q0 : (v == 0) = true := by rw [h0]; rfl
              have Y := Lib.hid (show N = none by rw [X.out]; show (if _ then _ else _) = _; rw [if_pos (.inr ⟨rfl, h0⟩)])
              clear h0
              go_wp2_with fail
              go_ret2
              exact numB_no Y.out HBr.out
            · have q0 : (v == 0) = false := beq_eq_false_iff_ne.2 h0
              have Y := Lib.hid (show N = some (-v) by rw [X.out]; show (if _ then _ else _) = _; rw [if_neg (by rintro (h | h); exact hmx h; exact h0 h.2)]; rfl)
              clear h0
              go_wp2_with fail
              go_ret2
              exact numB_yes Y.out rfl HBr.out
end Go.Proofs.YtcndknkdhlmdnaaGreatDoor

/-
  The program's parser: what made hands back, told by the spec; a scope with a jump back.
-/
namespace Go.Proofs.YtcndknkdhlmdnaaGreatDoor
open Go.RowKit
set_option maxRecDepth 100000

theorem wp_scope_pass {Pr : Program} {pre rest : Code} {a : Act} {w : World} {Q : Exit → Act → World → Prop} (J : Act → World → Prop) (μ : Act → World → Nat) (hpre : findLabel pre 0 = none) (first : pre.wp Pr (Exit.then J (Exit.noGoto Q)) a w)
    (pass : ∀ a w, J a w → rest.wp Pr (Exit.jump 0 (fun a' w' => J a' w' ∧ μ a' w' < μ a w) Q) a w) : (Code.scope (.seq pre (.seq (.label 0) rest))).wp Pr Q a w := by
  refine wp_scope_jumps (rest := .seq .skip rest) 0 J μ (by simp [findLabel, hpre]) ?_ ?_
  · refine wp_seq (wp_mono first fun e a w h => ?_)
    cases e with
    | normal =>
      refine wp_seq (wp_label ?_)
      exact wp_mono (pass a w h) fun e a w h => by
        cases e <;> first | exact h | exact ⟨h.1, h.2.1⟩
    | goto l => exact h.elim
    | exit id => exact h
    | ret => exact h
    | panic ch => exact h
    | outgrown => exact h
  · intro a w hJ
    exact wp_seq (wp_skip (pass a w hJ))
/-- how many tokens are left -/
def lenQ (P : Nat) (W : World) : Nat := match W.cell? ⟨P, 0, none⟩ with
  | some (.slice _ n _) => n
  | _ => 0
theorem SQ.len {P g cap : Nat} {ts : List Tk} {n : Nat} {l : List Tk} {W : World} (h : SQ P g cap ts n l W) : lenQ P W = l.length := by
  obtain ⟨a, rfl, h⟩ := h
  unfold lenQ
  rw [h.cells.1.1, List.length_drop]
/-- a tree's cells in a row -/
theorem trow1 (w : World) (T : TypeId) (e1 : Ent) : TRow (w.alloc (.cells #[.int .i64 e1.1.kind, .string e1.1.text, .int .i64 e1.1.n, .slice e1.2.1 e1.1.kids.length e1.2.2, .int .i64 e1.1.place, .int .i64 (depthN e1.1)] T)) w.heap.size 0 [e1] := by
  intro j hj
  obtain rfl : j = 0 := by simp at hj; omega
  refine ⟨?_, ?_, ?_, ?_, ?_, ?_⟩ <;> simp
theorem trow2 (w : World) (T : TypeId) (e1 e2 : Ent) : TRow (w.alloc (.cells #[.int .i64 e1.1.kind, .string e1.1.text, .int .i64 e1.1.n, .slice e1.2.1 e1.1.kids.length e1.2.2, .int .i64 e1.1.place, .int .i64 (depthN e1.1), .int .i64 e2.1.kind, .string e2.1.text, .int .i64 e2.1.n, .slice e2.2.1 e2.1.kids.length e2.2.2, .int .i64 e2.1.place, .int .i64 (depthN e2.1)] T)) w.heap.size 0 [e1, e2] := by
  intro j hj
  have : j = 0 ∨ j = 1 := by simp at hj; omega
  rcases this with rfl | rfl <;> (refine ⟨?_, ?_, ?_, ?_, ?_, ?_⟩ <;> simp)
theorem trow3 (w : World) (T : TypeId) (e1 e2 e3 : Ent) : TRow (w.alloc (.cells #[.int .i64 e1.1.kind, .string e1.1.text, .int .i64 e1.1.n, .slice e1.2.1 e1.1.kids.length e1.2.2, .int .i64 e1.1.place, .int .i64 (depthN e1.1), .int .i64 e2.1.kind, .string e2.1.text, .int .i64 e2.1.n, .slice e2.2.1 e2.1.kids.length e2.2.2, .int .i64 e2.1.place, .int .i64 (depthN e2.1),
    .int .i64 e3.1.kind, .string e3.1.text, .int .i64 e3.1.n, .slice e3.2.1 e3.1.kids.length e3.2.2, .int .i64 e3.1.place, .int .i64 (depthN e3.1)] T)) w.heap.size 0 [e1, e2, e3] := by
  intro j hj
  have : j = 0 ∨ j = 1 ∨ j = 2 := by simp at hj; omega
  rcases this with rfl | rfl | rfl <;> (refine ⟨?_, ?_, ?_, ?_, ?_, ?_⟩ <;> simp)
/-- what made hands back, told by the spec -/
def MadeR (x : Rd) (av : Nat → Prop) (w : World) (e : Ending) (w' : World) : Prop := Below w.heap.size w w' ∧ match x with
  | .ok (t, _) => ∃ a cp, e = .returned (trV t a cp) ∧ t.lies (fun b => av b ∨ Fr w.heap.size w'.heap.size b) w' a cp ∧ depthN t ≤ 100
  | .error (k, p) => e = flt k p
theorem MadeQ.use {k n p : Int} {s : List UInt8} {L : List Ent} {w w' : World} {e : Ending} (h : MadeQ k s n p L w e w') (hk : (Lit.int .i64 k).wf = true) (hs : s.length ≤ 16384) (hn : (Lit.int .i64 n).wf = true) (hp : (Lit.int .i64 p).wf = true) {av : Nat → Prop} (hav : ∀ b, av b → b < w.heap.size) (hl : ∀ e ∈ L, e.1.lies av w e.2.1 e.2.2) (r : List Tk) :
    MadeR (made (mkN k s n (L.map (·.1)) p) r) av w e w' := by
  obtain ⟨hb, h⟩ := h
  refine ⟨hb, ?_⟩
  unfold made
  split at h
  · rename_i hd
    rw [if_pos hd]; exact h
  · rename_i hd
    rw [if_neg hd]
    obtain ⟨a, cp, he, hq⟩ := h
    obtain ⟨h1, h2, h3⟩ := hq av hav hl
    exact ⟨a, cp, he, Nd.lies.mk' hk (by show s.toArray.size ≤ maxLen; unfold maxLen; simp; omega) hn hp (by rw [List.length_map]; exact h2) h3 h1, by omega⟩
end Go.Proofs.YtcndknkdhlmdnaaGreatDoor

/-
  The program's parser: parts with signs between them.
-/
namespace Go.Proofs.YtcndknkdhlmdnaaGreatDoor
open Go.RowKit
set_option maxRecDepth 100000

/-- where a chain's reading stands -/
def ChainJ (P g cap : Nat) (ts : List Tk) (nest lv : Nat) (l : List Tk) (X : Rd) (w : World) (tb : Nat) (t : Nd) (a : Option Addr) (cp : Nat) (r : List Tk) (wr : World) : Prop :=
  SQ P g cap ts nest r wr ∧ w.grownBy wr (some P) ∧ T6 tb t.kind t.text t.n a t.kids.length cp t.place (depthN t) wr ∧ T6 w.heap.size 0 ⟨#[]⟩ 0 none 0 0 0 0 wr ∧ w.heap.size < tb ∧ depthN t ≤ 100 ∧ X = rd (.loop lv t) nest r ∧ r.length ≤ l.length ∧
    ∃ av : Nat → Prop, (∀ c, av c → w.heap.size < c ∧ c < wr.heap.size ∧ c ≠ tb) ∧ t.lies av wr a cp
theorem qtk_field (k n p : Int) (s : ByteArray) (w : World) : (Instr.field 96 (.agg #[.int .i64 k, .string s, .int .i64 n, .int .i64 p]) 3).run Tryz.prog w = .ok (.int .i64 p) w := by kernel_rfl
theorem sgn_len (lv : Nat) : ∀ x ∈ signsT lv, x.length ≤ 3 := by
  unfold signsT
  split
  · decide
  split
  · decide
  split <;> decide
theorem ba_list (s : ByteArray) : (⟨s.data.toList.toArray⟩ : ByteArray) = s := by cases s; simp
theorem chain_eq (lv nest : Nat) (l : List Tk) : rd (.chain lv) nest l = (rd (lower lv) nest l).then fun t r => rd (.loop lv t) nest r := by rw [rd_eq]; rfl
theorem loop_no {lv nest : Nat} {t : Nd} {r : List Tk} (h : anyT (signsT lv) r = false) : rd (.loop lv t) nest r = .ok (t, r) := by
  rw [rd_eq]
  show (if anyT (signsT lv) r = true then _ else _) = _
  rw [h, if_neg (by decide)]
theorem loop_yes {lv nest : Nat} {t : Nd} {r : List Tk} {x : List UInt8} (hx : x ∈ signsT lv) (h : isT x r = true) : rd (.loop lv t) nest r = (rd (lower lv) nest (stepL r)).then fun m q => (made (mkN 13 x 0 [t, m] (hd r).pos) q).then fun t q => rd (.loop lv t) nest q := by
  rw [rd_eq]
  show (if anyT (signsT lv) r = true then _ else _) = _
  rw [if_pos (by unfold anyT; exact List.any_eq_true.2 ⟨x, hx, h⟩), (isT_kind h).2]
theorem sq_grown {P g cap : Nat} {ts : List Tk} {n : Nat} {l : List Tk} {W W' : World} {b : Nat} (h : SQ P g cap ts n l W) (k : W.grownBy W' (some b)) (hb : b ≠ P ∧ b ≠ g) : SQ P g cap ts n l W' :=
  h.keeps (fun c hc => by
    have hl := h.blocks
    rcases hc with rfl | rfl
    · exact k.block _ hl.1 (fun e => hb.1 (Option.some.inj e).symm)
    · exact k.block _ hl.2.1 (fun e => hb.2 (Option.some.inj e).symm)) k.size
theorem grown_new {w A B : World} {P b : Nat} (h : w.grownBy A (some P)) (k : A.grownBy B (some b)) (hb : w.heap.size ≤ b) : w.grownBy B (some P) :=
  ⟨k.os.trans h.os, k.tape.trans h.tape, k.output.trans h.output, Nat.le_trans h.size k.size, fun i hi hne => (k.block i (Nat.lt_of_lt_of_le hi h.size) (fun e => by have := Option.some.inj e; omega)).trans (h.block i hi hne)⟩
set_option maxHeartbeats 8000000 in
theorem qchain_any (P g cap : Nat) (ts : List Tk) (he : Ends ts) (htk : ∀ t ∈ ts, TkOk t) (nest lv : Nat) (l : List Tk) (K : Nat) (fs : Array Value) (ss : List ByteArray) (sa : Nat) (w : World) (hK : Enters K) (hss : ss.map (·.data.toList) = signsT lv) (hsl : ss.length ≤ 2)
    (h : SQ P g cap ts nest l w) (hsa : sa < w.heap.size ∧ sa ≠ P) (hsc : ∀ j (hj : j < ss.length), w.cell? ⟨sa, j, none⟩ = some (.string ss[j]))
    (hpart : ∀ r, r.length ≤ l.length → ∀ W, SQ P g cap ts nest r W → Calls Tryz.prog K fs W (QP P g cap ts nest (rd (lower lv) nest r) W)) :
    Calls Tryz.prog 120 #[.pointer (some ⟨P, 0, none⟩), .func (.func K) fs #[], .slice (some ⟨sa, 0, none⟩) ss.length ss.length] w (QP P g cap ts nest (rd (.chain lv) nest l) w) := by
  unfold Enters at hK
  have HP := Lib.hid hpart
  have HE := Lib.hid he
  have HTK := Lib.hid htk
  have HSS := Lib.hid hss
  have HSC := Lib.hid hsc
  have HSA := Lib.hid hsa
  have H := Lib.hid h
  obtain ⟨X, hX⟩ : ∃ X, X = rd (.chain lv) nest l := ⟨_, rfl⟩
  rw [← hX]
  rw [chain_eq] at hX
  have HX := Lib.hid hX
  clear h he htk hpart hss hsc hsa hX
  go_enter Tryz.func120, Tryz.ntmps120
  go_wp2_with fail
  obtain ⟨W1, hW1⟩ : ∃ W, W = w.alloc (.cells #[.int .i64 0, .string ⟨#[]⟩, .int .i64 0, .slice none 0 0, .int .i64 0, .int .i64 0] 67) := ⟨_, rfl⟩
  have B1 := Lib.hid (show Below w.heap.size w W1 from hW1 ▸ nbelow1 _ _)
  have Z1 := Lib.hid (show T6 w.heap.size 0 ⟨#[]⟩ 0 none 0 0 0 0 W1 from hW1 ▸ T6.make w _ _ _ _ _ _ _ _)
  rw [← hW1]
  clear hW1
  refine wp_scope_pass (fun a' wr => ∃ (tb : Nat) (t : Nd) (a : Option Addr) (cp : Nat) (r : List Tk) (u8 u9 u10 u11 u12 u13 u14 u15 u16 u17 u18 u19 u20 u21 u22 u23 u24 u25 u26 u27 u28 u29 u30 u31 u32 u33 u34 u35 : Value), a' = { tmps := #[.pointer (some ⟨P, 0, none⟩), .func (.func K) fs #[], .slice (some ⟨sa, 0, none⟩) ss.length ss.length, undef, undef, undef, .pointer (some ⟨w.heap.size, 0, none⟩), .pointer (some ⟨tb, 0, none⟩), u8, u9, u10, u11, u12, u13, u14, u15, u16, u17, u18, u19, u20, u21, u22, u23, u24, u25, u26, u27, u28, u29, u30, u31, u32, u33, u34, u35], defers := [] } ∧ Hid (ChainJ P g cap ts nest lv l X w tb t a cp r wr)) (fun _ wr => lenQ P wr) rfl ?_ ?_
  · have C1 := Lib.hid (HP.out l (Nat.le_refl _) W1 (H.out.below B1.out))
    have HRL := Lib.hid (fun t q (h : rd (lower lv) nest l = .ok (t, q)) => rd_len (lower lv) nest l h)
    generalize rd (lower lv) nest l = x at HX C1 HRL
    go_wp2_with fail
    (with_reducible refine Calls.mono C1.out ?_)
    intro e w2 hq
    cases x with
    | error q =>
      obtain ⟨k, p⟩ := q
      obtain ⟨rfl, hg⟩ := hq
      refine And.intro rfl ?_
      rw [HX.out]
      exact ⟨rfl, grown_trans (grown_of B1.out) hg⟩
    | ok q =>
      obtain ⟨t, r⟩ := q
      obtain ⟨a, cp, rfl, hs, hg, hl, hd⟩ := hq
      have HI := Lib.hid (show ChainJ P g cap ts nest lv l X w w2.heap.size t a cp r (w2.alloc (.cells #[.int .i64 t.kind, .string t.text, .int .i64 t.n, .slice a t.kids.length cp, .int .i64 t.place, .int .i64 (depthN t)] 67)) by
        have b := nbelow1 w2 (.cells #[.int .i64 t.kind, .string t.text, .int .i64 t.n, .slice a t.kids.length cp, .int .i64 t.place, .int .i64 (depthN t)] 67)
        have z := Z1.out.lt
        have hbl := H.out.blocks
        have hsz := hg.size
        refine ⟨hs.below b, grown_trans (grown_trans (grown_of B1.out) hg) (grown_of b), T6.make w2 _ _ _ _ _ _ _ _, (Z1.out.grown hg (fun e => by have := Option.some.inj e; omega)).below b, by omega, hd, HX.out, HRL.out t r rfl, Fr W1.heap.size w2.heap.size, fun c hc => ⟨by have := hc.1; omega, by have := hc.2; simp; omega, by have := hc.2; omega⟩, lies_move hl (fun c hc => b.block c hc.2) fun c hc => hc⟩)
      clear hs hg hl hd C1
      unfold trV
      go_wp2_with fail
      exact ⟨w2.heap.size, t, a, cp, r, _, _, _, _, _, _, _, _, _, _, _, _, _, _, _, _, _, _, _, _, _, _, _, _, _, _, _, _, rfl, HI.out⟩
  · rintro a' wo ⟨tb, t, a, cp, r, u8, u9, u10, u11, u12, u13, u14, u15, u16, u17, u18, u19, u20, u21, u22, u23, u24, u25, u26, u27, u28, u29, u30, u31, u32, u33, u34, u35, rfl, HI⟩
    have HBl := Lib.hid H.out.blocks
    clear H HX
    go_wp2_with fail
    go_loopw [15] (fun i wr => ∃ k : Nat, k ≤ ss.length ∧ i = .int .i64 k ∧ Hid (∀ j (hj : j < ss.length), j < k → isT ss[j].data.toList r = false) ∧ Hid (Below wo.heap.size wo wr)) (fun i _ => (ss.length - (intOf i).toNat))
    case atStart => exact ⟨0, Nat.zero_le _, rfl, fun j hj h => by omega, Below.refl _ _⟩
    case round =>
      obtain ⟨k, hk, rfl, HN, HB⟩ := hrel
      by_cases hlt : k < ss.length
      · have hga := HI.out.2.1.size
        have c0 : wr.cell? ⟨sa, k, none⟩ = some (.string ss[k]) :=
          (HB.out.cell (p := ⟨sa, k, none⟩) (by show sa < wo.heap.size; have := HSA.out; omega)).trans ((World.cell?_of_block (HI.out.2.1.block sa HSA.out.1 (fun e => HSA.out.2 (Option.some.inj e)))).trans (HSC.out k hlt))
        have HM := Lib.hid (show ss[k].data.toList ∈ signsT lv by rw [← HSS.out]; exact List.mem_map.2 ⟨_, List.getElem_mem hlt, rfl⟩)
        have HAll := Lib.hid (show isT ss[k].data.toList r = false → ∀ j (hj : j < ss.length), j < k + 1 → isT ss[j].data.toList r = false from fun h j hj hjk => by
          by_cases e : j = k
          · subst e; exact h
          · exact HN.out j hj (by omega))
        have S1 := Lib.hid (HI.out.1.below HB.out)
        have hs2 : ss.length ≤ 9223372036854775807 := by omega
        generalize ss[k] = s at c0 HM HAll
        have C2 := Lib.hid (qis_s P g cap ts nest r s wr S1.out)
        generalize hbe : isT s.data.toList r = b at C2 HAll
        have HBE := Lib.hid hbe
        clear hbe HN
        cases b
        · have HA := Lib.hid (HAll.out rfl)
          clear HAll
          go_wp2_with fail
          (with_reducible refine Calls.mono C2.out ?_)
          rintro e w4 ⟨rfl, hb⟩
          have HB4 := Lib.hid (HB.out.trans (hb.mono HB.out.size))
          clear hb C2
          go_wp2_with fail
          go_roundw
          case rel => exact ⟨k + 1, by omega, by go_num, HA.out, HB4.out⟩
          case measure => simp [intOf]; omega
        · clear HAll
          have HXn := Lib.hid (HI.out.2.2.2.2.2.2.1.trans (loop_yes HM.out HBE.out))
          have HLn := Lib.hid (isT_len HBE.out)
          go_wp2_with fail
          (with_reducible refine Calls.mono C2.out ?_)
          rintro e w4 ⟨rfl, hb⟩
          have HB4 := Lib.hid (HB.out.trans (hb.mono HB.out.size))
          have S4 := Lib.hid (S1.out.below hb)
          have C3 := Lib.hid (qstep_s P g cap ts nest r w4 S4.out HE.out)
          have HT0 := Lib.hid (HTK.out _ S4.out.mem)
          generalize hd r = T at C3 HXn HT0
          have hfd := qtk_field T.kind T.n T.pos ⟨T.text.toArray⟩
          clear hb C2
          go_wp2_with fail
          (with_reducible refine Calls.mono C3.out ?_)
          rintro e wi ⟨rfl, hs5, hg5⟩
          have S5 := Lib.hid hs5
          have G0 := Lib.hid hg5
          have G5 := Lib.hid (grown_trans (grown_of HB4.out) hg5)
          clear hs5 hg5 C3
          unfold tkV
          obtain ⟨W5, hW5⟩ : ∃ W, W = wi.alloc (.cells #[.int .i64 13, .string s, .int .i64 0, .slice none 0 0, .int .i64 T.pos] 24) := ⟨_, rfl⟩
          have B5 := Lib.hid (show Below wi.heap.size wi W5 from hW5 ▸ nbelow1 _ _)
          have htb := Lib.hid HI.out.2.2.2.2.1
          have TI := Lib.hid ((HI.out.2.2.1.below HB4.out).grown G0.out (fun e => by have := Option.some.inj e; have := htb.out; have := HBl.out; omega))
          have hti := Lib.hid TI.out.lt
          have N5 := Lib.hid (show NBox wi.heap.size (.mk 13 s 0 [] T.pos) none 0 W5 from hW5 ▸ NBox.make wi (.mk 13 s 0 [] T.pos) none 0)
          have T5 := Lib.hid (TI.out.below B5.out)
          have Z5 := Lib.hid (((HI.out.2.2.2.1.below HB4.out).grown G0.out (fun e => by have := Option.some.inj e; have := HBl.out; omega)).below B5.out)
          have BD := Lib.hid (show Below W5.heap.size W5 W5.drew from bdrew (Below.refl _ _))
          have C6 := Lib.hid (HP.out (stepL r) (by have := HLn.out; have := HI.out.2.2.2.2.2.2.2.1; omega) W5.drew ((S5.out.below B5.out).below BD.out))
          have HR6 := Lib.hid (fun t q (h : rd (lower lv) nest (stepL r) = .ok (t, q)) => rd_len (lower lv) nest (stepL r) h)
          have GW := Lib.hid (show w.grownBy W5.drew (some P) from grown_trans (grown_trans HI.out.2.1 G5.out) (grown_of (B5.out.trans (BD.out.mono B5.out.size))))
          generalize rd (lower lv) nest (stepL r) = x at C6 HXn HR6
          go_upto_region 7 with fail
          rw [← hW5]
          clear hW5
          refine wp_region_till (S := (fun cur => (cur.cell? ⟨wi.heap.size, 0, none⟩ = some (.int .i64 13) ∧ cur.cell? ⟨wi.heap.size, 1, none⟩ = some (.string s) ∧ cur.cell? ⟨wi.heap.size, 2, none⟩ = some (.int .i64 0) ∧ cur.cell? ⟨wi.heap.size, 3, none⟩ = some (.slice none 0 0) ∧ cur.cell? ⟨wi.heap.size, 4, none⟩ = some (.int .i64 T.pos)) ∧ (cur.cell? ⟨tb, 0, none⟩ = some (.int .i64 t.kind) ∧ cur.cell? ⟨tb, 1, none⟩ = some (.string t.text) ∧ cur.cell? ⟨tb, 2, none⟩ = some (.int .i64 t.n) ∧ cur.cell? ⟨tb, 3, none⟩ = some (.slice a t.kids.length cp) ∧ cur.cell? ⟨tb, 4, none⟩ = some (.int .i64 t.place) ∧ cur.cell? ⟨tb, 5, none⟩ = some (.int .i64 (depthN t))))) (z := 7) (by kernel_rfl) ?_ (fun hHeld => ?_)
          · exact ⟨N5.out.cells.1, T5.out.cells.1⟩
          refine AnyTill.take (i := 0) (v := ?_) (op_at rfl) (by kernel_rfl) (by kernel_rfl) (by kernel_rfl) (by kernel_rfl) (fun _ _ _ h => h) (Or.inl ⟨by rfl, ?_⟩) (by assumption) ?_
          rotate_left
          · (intro w hSw; (try dsimp only at hSw); go_simp; try with_reducible rfl)
          try simp only [Act.put, List.setIfInBounds_toArray, List.set_cons_zero, List.set_cons_succ]
          refine AnyTill.take (i := 1) (v := ?_) (op_at rfl) (by kernel_rfl) (by kernel_rfl) (by kernel_rfl) (by kernel_rfl) (fun _ _ _ h => h) (Or.inl ⟨by rfl, ?_⟩) (by assumption) ?_
          rotate_left
          · (intro w hSw; (try dsimp only at hSw); go_simp; try with_reducible rfl)
          try simp only [Act.put, List.setIfInBounds_toArray, List.set_cons_zero, List.set_cons_succ]
          refine AnyTill.take (i := 2) (v := ?_) (op_at rfl) (by kernel_rfl) (by kernel_rfl) (by kernel_rfl) (by kernel_rfl) (fun _ _ _ h => h) (Or.inl ⟨by rfl, ?_⟩) (by assumption) ?_
          rotate_left
          · (intro w hSw; (try dsimp only at hSw); go_simp; try with_reducible rfl)
          try simp only [Act.put, List.setIfInBounds_toArray, List.set_cons_zero, List.set_cons_succ]
          refine AnyTill.take (i := 3) (v := ?_) (op_at rfl) (by kernel_rfl) (by kernel_rfl) (by kernel_rfl) (by kernel_rfl) (fun _ _ _ h => h) (Or.inl ⟨by rfl, ?_⟩) (by assumption) ?_
          rotate_left
          · (intro w hSw; (try dsimp only at hSw); go_simp; try with_reducible rfl)
          try simp only [Act.put, List.setIfInBounds_toArray, List.set_cons_zero, List.set_cons_succ]
          refine AnyTill.next (i := 4) (by kernel_rfl) (op_at rfl) (by decide) (fun K hK => ?_)
          go_simp
          (with_reducible refine Calls.mono C6.out ?_)
          intro e w6 hq
          cases x with
          | error q =>
            obtain ⟨k0, p0⟩ := q
            obtain ⟨rfl, hg⟩ := hq
            refine And.intro rfl ?_
            rw [HXn.out]
            exact ⟨rfl, grown_trans GW.out hg⟩
          | ok q =>
          obtain ⟨m, q⟩ := q
          obtain ⟨a2, cp2, rfl, hs6, hg6, hl6, hd6⟩ := hq
          have S6 := Lib.hid hs6
          have G6 := Lib.hid (grown_trans GW.out hg6)
          have N6 := Lib.hid (NBox.grown (show NBox wi.heap.size (.mk 13 s 0 [] T.pos) none 0 W5.drew from N5.out) hg6 (by have := S5.out.blocks; omega))
          have T6' := Lib.hid (T6.grown (show T6 tb t.kind t.text t.n a t.kids.length cp t.place (depthN t) W5.drew from T5.out) hg6 (fun e => by have := Option.some.inj e; have := htb.out; have := HBl.out; omega))
          have HG6 := Lib.hid hg6
          have HL6 := Lib.hid hl6
          have HD6 := Lib.hid hd6
          clear hs6 hg6 hl6 hd6 C6
          unfold trV
          go_wp2_with fail
          refine hK.out _ _ ?_ (fun hHeld => ?_)
          · exact ⟨N6.out.cells.1, T6'.out.cells.1⟩
          clear hK K
          try simp only [Act.put, List.setIfInBounds_toArray, List.set_cons_zero, List.set_cons_succ]
          refine AnyTill.next (i := 5) (by kernel_rfl) (op_at rfl) (by decide) (fun K hK => ?_)
          go_simp
          obtain ⟨W7, hW7⟩ : ∃ W, W = w6.alloc (.cells #[.int .i64 t.kind, .string t.text, .int .i64 t.n, .slice a t.kids.length cp, .int .i64 t.place, .int .i64 (depthN t), .int .i64 m.kind, .string m.text, .int .i64 m.n, .slice a2 m.kids.length cp2, .int .i64 m.place, .int .i64 (depthN m)] 67) := ⟨_, rfl⟩
          have R7 := Lib.hid (show TRow W7 w6.heap.size 0 [(t, a, cp), (m, a2, cp2)] from hW7 ▸ trow2 w6 _ (t, a, cp) (m, a2, cp2))
          have B7 := Lib.hid (show Below w6.heap.size w6 W7 from hW7 ▸ nbelow1 _ _)
          have hz7 := Lib.hid (show W7.heap.size = w6.heap.size + 1 by rw [hW7]; simp)
          have N7 := Lib.hid (N6.out.below B7.out)
          have T7 := Lib.hid (T6'.out.below B7.out)
          have C7 := Lib.hid (show Calls Tryz.prog 86 #[.pointer (some ⟨P, 0, none⟩), .agg #[.int .i64 13, .string s, .int .i64 0, .slice none 0 0, .int .i64 T.pos], .slice (some ⟨w6.heap.size, 0, none⟩) 2 2] W7 (MadeQ 13 s.data.toList 0 T.pos [(t, a, cp), (m, a2, cp2)] W7) by
            have := qmade_any P 13 s.data.toList 0 T.pos (some ⟨w6.heap.size, 0, none⟩) 2 [(t, a, cp), (m, a2, cp2)] W7 (by show 2 ≤ 8; decide) (fun _ => ⟨w6.heap.size, 0, rfl, by have := hz7.out; omega, R7.out⟩) (fun e he => by
              rcases List.mem_cons.1 he with rfl | he
              · exact HI.out.2.2.2.2.2.1
              · obtain rfl := List.mem_singleton.1 he; exact HD6.out)
            rw [ba_list] at this
            exact this)
          rw [← hW7]
          clear hW7
          refine hK.out _ _ ?_ (fun hHeld => ?_)
          · exact ⟨N7.out.cells.1, T7.out.cells.1⟩
          clear hK K
          try simp only [Act.put, List.setIfInBounds_toArray, List.set_cons_zero, List.set_cons_succ]
          refine AnyTill.next (i := 6) (by kernel_rfl) (op_at rfl) (by decide) (fun K hK => ?_)
          go_simp
          (with_reducible refine Calls.mono C7.out ?_)
          intro e w8 hm
          have HMR := Lib.hid (show MadeR (made (mkN 13 s.data.toList 0 [t, m] T.pos) q) (fun c => w.heap.size < c ∧ c < W7.heap.size ∧ c ≠ tb) W7 e w8 from by
            have hsz6 := HG6.out.size
            have hszo := HB4.out.size
            have hszi := G0.out.size
            have hsz5 := B5.out.size
            have hh := hz7.out
            have hPw := HBl.out
            have hsd : W5.drew.heap.size = W5.heap.size := rfl
            have hti' := hti.out
            have htb' := htb.out
            refine hm.use rfl ?_ rfl HT0.out.2.1 (fun c hc => hc.2.1) (fun e he => ?_) q
            · have := sgn_len lv _ HM.out; omega
            · rcases List.mem_cons.1 he with rfl | he
              · obtain ⟨av, hav, hl⟩ := HI.out.2.2.2.2.2.2.2.2
                refine lies_move hl (fun c hc => ?_) fun c hc => ⟨(hav c hc).1, by have := (hav c hc).2.1; omega, (hav c hc).2.2⟩
                have h1 := hav c hc
                refine (B7.out.block c (by omega)).trans ((HG6.out.block c (by omega) (fun e => by have := Option.some.inj e; omega)).trans ?_)
                exact (B5.out.block c (by omega)).trans ((G0.out.block c (by omega) (fun e => by have := Option.some.inj e; omega)).trans (HB4.out.block c h1.2.1))
              · obtain rfl := List.mem_singleton.1 he
                exact lies_move HL6.out (fun c hc => B7.out.block c hc.2) fun c hc => ⟨by have := hc.1; omega, by have := hc.2; omega, by have := hc.1; omega⟩)
          clear hm C7
          obtain ⟨hb8, hm⟩ := HMR.out
          have B8 := Lib.hid hb8
          have HXm := Lib.hid (show X = (made (mkN 13 s.data.toList 0 [t, m] T.pos) q).then fun t q => rd (.loop lv t) nest q from HXn.out)
          cases hmd : made (mkN 13 s.data.toList 0 [t, m] T.pos) q with
          | error z =>
            obtain ⟨k0, p0⟩ := z
            rw [hmd] at hm
            obtain rfl := hm
            refine And.intro rfl ?_
            rw [HXm.out, hmd]
            exact ⟨rfl, grown_trans G6.out (grown_of (B7.out.trans (B8.out.mono B7.out.size)))⟩
          | ok z =>
          obtain ⟨t2, q2⟩ := z
          have hq2 : q2 = q := by
            unfold made at hmd
            split at hmd
            · cases hmd
            · cases hmd; rfl
          subst hq2
          rw [hmd] at hm
          obtain ⟨a3, cp3, rfl, hl3, hd3⟩ := hm
          have HMD := Lib.hid hmd
          have HL3 := Lib.hid hl3
          have HD3 := Lib.hid hd3
          have N8 := Lib.hid (N7.out.below B8.out)
          have T8 := Lib.hid (T7.out.below B8.out)
          clear hmd hl3 hd3 hb8
          unfold trV
          go_wp2_with fail
          refine hK.out _ _ ?_ (fun hHeld => ?_)
          · exact ⟨N8.out.cells.1, T8.out.cells.1⟩
          clear hK K
          try simp only [Act.put, List.setIfInBounds_toArray, List.set_cons_zero, List.set_cons_succ]
          obtain ⟨⟨x0, x1, x2, x3, x4, x5⟩, ⟨f0, f1, f2, f3, f4, f5⟩⟩ := T8.out.cells
          have hx8 := T8.out.lt
          refine AnyTill.last (z := 7) (by kernel_rfl) (op_at rfl) (by kernel_rfl) (fun K hK => ?_)
          go_simp
          refine hK.out _ _ ?_
          clear hK K
          go_wp2_with fail
          go_step3
          have hPw := HBl.out
          have htb' := htb.out
          have hG8 : w6.grownBy w8 (some P) := grown_of (B7.out.trans (B8.out.mono B7.out.size))
          have hput := put6_grown (b := tb) w8 t2.kind t2.text t2.n a3 t2.kids.length cp3 t2.place (depthN t2)
          have hZ8 : T6 w.heap.size 0 ⟨#[]⟩ 0 none 0 0 0 0 w8 := ((T6.grown (show T6 w.heap.size 0 ⟨#[]⟩ 0 none 0 0 0 0 W5.drew from Z5.out) HG6.out (fun e => by have := Option.some.inj e; omega)).below B7.out).below B8.out
          have hS9 := sq_grown ((S6.out.below B7.out).below B8.out) hput (by omega)
          have hlq : q2.length < r.length := by have := HR6.out m q2 rfl; have := HLn.out; omega
          refine And.intro rfl (And.intro ⟨tb, t2, a3, cp3, q2, _, _, _, _, _, _, _, _, _, _, _, _, _, _, _, _, _, _, _, _, _, _, _, _, _, _, _, _, rfl, hS9, grown_new (grown_trans G6.out hG8) hput (by omega), T8.out.put _ _ _ _ _ _ _ _, (hput.block _ hZ8.lt (fun e => by have := Option.some.inj e; omega)).trans hZ8, htb', HD3.out, ?_, by have := HI.out.2.2.2.2.2.2.2.1; omega, _, fun c hc => ?_, lies_move HL3.out (fun c hc => hput.block c ?_ fun e => ?_) fun c hc => hc⟩ ?_)
          · rw [HXm.out, HMD.out]; rfl
          · have := T7.out.lt
            have := B8.out.size
            have := hput.size
            rcases hc with hc | hc
            · exact ⟨hc.1, Nat.lt_of_lt_of_le (by have := hc.2.1; omega) hput.size, hc.2.2⟩
            · exact ⟨by have := hc.1; omega, Nat.lt_of_lt_of_le hc.2 hput.size, by have := hc.1; omega⟩
          · have := B8.out.size
            rcases hc with hc | hc
            · omega
            · exact hc.2
          · have := T7.out.lt
            have := Option.some.inj e
            rcases hc with hc | hc
            · exact hc.2.2 this
            · have := hc.1; omega
          · show lenQ P _ < lenQ P wo
            rw [HI.out.1.len]
            exact Nat.lt_of_le_of_lt (Nat.le_of_eq hS9.len) hlq
      · have HA := Lib.hid (show anyT (signsT lv) r = false by
          rw [← HSS.out]
          unfold anyT
          rw [List.any_eq_false]
          intro x hx
          obtain ⟨y, hy, rfl⟩ := List.mem_map.1 hx
          obtain ⟨j, hj, rfl⟩ := List.getElem_of_mem hy
          rw [HN.out j hj (by omega)]
          decide)
        have HXn := Lib.hid (HI.out.2.2.2.2.2.2.1.trans (loop_no HA.out))
        have TR := Lib.hid (HI.out.2.2.1.below HB.out)
        have ZR := Lib.hid (HI.out.2.2.2.1.below HB.out)
        obtain ⟨⟨x0, x1, x2, x3, x4, x5⟩, -⟩ := TR.out.cells
        obtain ⟨⟨z0, z1, z2, z3, z4, z5⟩, ⟨f0, f1, f2, f3, f4, f5⟩⟩ := ZR.out.cells
        have hxl := TR.out.lt
        have hzl := ZR.out.lt
        go_wp2_with fail
        refine bodyPost_ret (v := trV t a cp) (by simp [results, Tryz.results120, go_sem, trV, z0, z1, z2, z3, z4, z5]) rfl ?_
        rw [HXn.out]
        obtain ⟨av, hav, hl⟩ := HI.out.2.2.2.2.2.2.2.2
        have hPw := HBl.out
        have hsz := HB.out.size
        exact QP.fin (av := av) (HI.out.1.below HB.out) (grown_trans HI.out.2.1 (grown_of HB.out)) (Nat.le_refl _) (by omega) (lies_move hl (fun c hc => HB.out.block c (hav c hc).2.1) fun c hc => hc) (fun c hc => ⟨by have := (hav c hc).1; omega, by have := (hav c hc).2.1; omega, by have := (hav c hc).1; omega⟩) HI.out.2.2.2.2.2.1
end Go.Proofs.YtcndknkdhlmdnaaGreatDoor
