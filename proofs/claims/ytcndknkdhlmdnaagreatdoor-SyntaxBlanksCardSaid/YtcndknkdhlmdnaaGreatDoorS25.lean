/-
  Texts that the statements' proofs rest on, one behind another: ScE.
-/
import Derived.Test.YtcndknkdhlmdnaaGreatDoorS24

/-
  The program's scanner: the next token.
-/
namespace Go.Proofs.YtcndknkdhlmdnaaGreatDoor
open Go.RowKit
set_option maxRecDepth 100000

theorem pre_two (c : UInt8) (r : List UInt8) : Lib.hasPrefix (c :: r) [60, 61] = (decide ((c.toNat : Int) = 60) && decide (((r.headD 0).toNat : Int) = 61)) := by
  have e : ∀ (x : UInt8) (n : Nat), n < 256 → decide ((x.toNat : Int) = n) = (UInt8.ofNat n == x) := fun x n hn => by
    rw [Bool.eq_iff_iff, decide_eq_true_eq, beq_iff_eq, u8_int hn, eq_comm]
  have e1 := e c 60 (by decide)
  have e2 := e (r.headD 0) 61 (by decide)
  rw [show ((60 : Nat) : Int) = 60 from rfl] at e1
  rw [show ((61 : Nat) : Int) = 61 from rfl] at e2
  rw [e1, e2]
  unfold Lib.hasPrefix
  cases r with
  | nil =>
    rw [List.isPrefixOf]
    show ((60 : UInt8) == c && false) = ((60 : UInt8) == c && ((61 : UInt8) == 0))
    rfl
  | cons d r =>
    rw [List.isPrefixOf, List.isPrefixOf, List.isPrefixOf, Bool.and_true]
    rfl
theorem mark_index (c : UInt8) : decide (Lib.indexByte (⟨#[40, 41, 44, 59, 61, 60, 43, 45, 42, 47]⟩ : ByteArray).data.toList (c.toNat : Int).toNat.toUInt8 < 0) = !markTab.contains c := by
  have := u8_all (p := fun c => decide (Lib.indexByte (⟨#[40, 41, 44, 59, 61, 60, 43, 45, 42, 47]⟩ : ByteArray).data.toList (c.toNat : Int).toNat.toUInt8 < 0) == !markTab.contains c) (by decide +kernel) c
  simpa using this
set_option maxHeartbeats 16000000 in
theorem qtoken_any (X M : Nat) (s : ByteArray) (a : Nat) (ts : List Tk) (w : World) (h : SC X M s a ts w) (hs : s.size ≤ 16384) (ha : a < s.size) (htl : ts.length ≤ 8192) :
    Calls Tryz.prog 119 #[.pointer (some ⟨X, 0, none⟩)] w (TokQ X M s a ts (tokS s[a] (s.data.toList.drop (a + 1)) a) w) := by
  have D := Lib.hid (drop_at ha)
  have K := Lib.hid (tok_eq s[a] (s.data.toList.drop (a + 1)) a)
  rw [← D.out] at K
  have HS := Lib.hid h
  obtain ⟨i0, hi, hz0, hz1, hz2⟩ := info_parts (show (Tryz.prog.info? 96).map (fun i => (i.zero, i.size, i.bytes)) = some (some (.agg #[.int .i64 0, .string ⟨#[]⟩, .int .i64 0, .int .i64 0]), 4, 40) by kernel_rfl)
  have HI0 := Lib.hid (show _ ∧ _ ∧ _ ∧ _ from ⟨hi, hz0, hz1, hz2⟩)
  clear hi hz0 hz1 hz2
  clear h
  obtain ⟨hX0, hX1⟩ := HS.out.sb
  go_enter Tryz.func119, Tryz.ntmps119
  go_upto_region 1 with fail
  go_quiet (fail)
  obtain ⟨W1, hW1⟩ : ∃ W, W = w.drewN nq := ⟨_, rfl⟩
  have HS1 := Lib.hid (show SC X M s a ts W1 from hW1 ▸ HS.out.below (Go.Proofs.YtcndknkdhlmdnaaGreatDoor.below_drewN w nq))
  have BX1 := Lib.hid (show Below X w W1 from hW1 ▸ ((Go.Proofs.YtcndknkdhlmdnaaGreatDoor.below_drewN w nq).mono (Nat.le_of_lt HS.out.lt.2)))
  rw [← hW1]
  clear hW1 hX0 hX1 HS
  obtain ⟨hX0, hX1⟩ := HS1.out.sb
  cases h1 : smI s[a].toNat
  case true =>
    have C := Lib.hid (qnamed_any X M s a ts W1 HS1.out hs ha htl)
    replace K := Lib.hid (K.out.trans (if_pos h1))
    go_wp2_with (first | (go_at_call 146; refine (qsmall_any _ _).mono ?_; rintro e w' ⟨rfl, hw⟩; rw [← hw, h1]; clear hw w'))
    (with_reducible refine Calls.mono C.out ?_)
    rintro e w2 ⟨hb, hr⟩
    have BX := Lib.hid (BX1.out.trans hb)
    cases hx : namedS (s.data.toList.drop a) a with
    | error c =>
      rw [hx] at hr
      obtain ⟨hc, k', ts', rfl, hsc⟩ := hr
      have R := Lib.hid (K.out.trans hx)
      have HC := Lib.hid hc
      have HSC := Lib.hid hsc
      clear hx hc hsc hb
      go_wp2_with fail
      go_ret2
      exact tokQ_err R.out HC.out BX.out HSC.out
    | ok q =>
      obtain ⟨t, n⟩ := q
      rw [hx] at hr
      obtain ⟨rfl, hsc⟩ := hr
      have R := Lib.hid (K.out.trans hx)
      have HSC := Lib.hid hsc
      clear hx hsc hb
      go_wp2_with fail
      go_ret2
      exact tokQ_ok R.out BX.out rfl rfl HSC.out
  replace K := Lib.hid (K.out.trans (if_neg (by rw [h1]; decide)))
  cases h2 : dgI s[a].toNat
  case true =>
    have C := Lib.hid (qdigits_any X M s a ts W1 HS1.out hs ha (by rw [dgC_I]; exact h2) htl)
    replace K := Lib.hid (K.out.trans (if_pos h2))
    go_wp2_with (first | (go_at_call 146; refine (qsmall_any _ _).mono ?_; rintro e w' ⟨rfl, hw⟩; rw [← hw, h1]; clear hw w') | (go_at_call 148; refine (qdigit_any _ _).mono ?_; rintro e w' ⟨rfl, hw⟩; rw [← hw, h2]; clear hw w'))
    (with_reducible refine Calls.mono C.out ?_)
    rintro e w2 ⟨hb, hr⟩
    have BX := Lib.hid (BX1.out.trans hb)
    cases hx : numS (s.data.toList.drop a) a with
    | error c =>
      rw [hx] at hr
      obtain ⟨hc, k', ts', rfl, hsc⟩ := hr
      have R := Lib.hid (K.out.trans hx)
      have HC := Lib.hid hc
      have HSC := Lib.hid hsc
      clear hx hc hsc hb
      go_wp2_with fail
      go_ret2
      exact tokQ_err R.out HC.out BX.out HSC.out
    | ok q =>
      obtain ⟨t, n⟩ := q
      rw [hx] at hr
      obtain ⟨rfl, hsc⟩ := hr
      have R := Lib.hid (K.out.trans hx)
      have HSC := Lib.hid hsc
      clear hx hsc hb
      go_wp2_with fail
      go_ret2
      exact tokQ_ok R.out BX.out rfl rfl HSC.out
  replace K := Lib.hid (K.out.trans (if_neg (by rw [h2]; decide)))
  by_cases h34 : (s[a].toNat : Int) = 34
  case pos =>
    have h3 : ((s[a].toNat : Int) == 34) = true := by rw [h34]; rfl
    have H34 := Lib.hid h34
    clear h34
    have C := Lib.hid (qstring_any X M s a ts W1 HS1.out hs ha htl)
    replace K := Lib.hid (K.out.trans (if_pos H34.out))
    go_wp2_with (first | (go_at_call 146; refine (qsmall_any _ _).mono ?_; rintro e w' ⟨rfl, hw⟩; rw [← hw, h1]; clear hw w') | (go_at_call 148; refine (qdigit_any _ _).mono ?_; rintro e w' ⟨rfl, hw⟩; rw [← hw, h2]; clear hw w'))
    (with_reducible refine Calls.mono C.out ?_)
    rintro e w2 ⟨hb, hr⟩
    have BX := Lib.hid (BX1.out.trans hb)
    cases hx : quotS (s.data.toList.drop (a + 1)) a with
    | error c =>
      rw [hx] at hr
      obtain ⟨hc, k', ts', rfl, hsc⟩ := hr
      have R := Lib.hid (K.out.trans hx)
      have HC := Lib.hid hc
      have HSC := Lib.hid hsc
      clear hx hc hsc hb
      go_wp2_with fail
      go_ret2
      exact tokQ_err R.out HC.out BX.out HSC.out
    | ok q =>
      obtain ⟨t, n⟩ := q
      rw [hx] at hr
      obtain ⟨rfl, hsc⟩ := hr
      have R := Lib.hid (K.out.trans hx)
      have HSC := Lib.hid hsc
      clear hx hsc hb
      go_wp2_with fail
      go_ret2
      exact tokQ_ok R.out BX.out rfl rfl HSC.out
  have h3 : ((s[a].toNat : Int) == 34) = false := beq_eq_false_iff_ne.2 h34
  replace K := Lib.hid (K.out.trans (if_neg h34))
  clear h34
  cases h4 : grI s[a].toNat
  case true =>
    replace K := Lib.hid (K.out.trans (if_pos h4))
    have hgl : greR (s.data.toList.drop a) ≤ s.size - a := by
      have := takeWhile_le grC (s.data.toList.drop a)
      rwa [List.length_drop, size_list] at this
    have C := Lib.hid (qrun_great X s a a W1 HS1.out.sb hs (by omega))
    have Q := Lib.hid (show curS (s.data.toList.drop a) a = if greR (s.data.toList.drop a) = 3 then .ok (⟨4, (s.data.toList.drop a).take 3, 0, a⟩, 3) else .error 73 from rfl)
    generalize greR (s.data.toList.drop a) = n at hgl C Q
    have T := Lib.hid (show (s.extract a (a + n)).data.toList = (s.data.toList.drop a).take n by rw [ext_list, Nat.add_sub_cancel_left])
    have hte := ext_size s a (a + n) (by omega)
    go_wp2_with (first | (go_at_call 146; refine (qsmall_any _ _).mono ?_; rintro e w' ⟨rfl, hw⟩; rw [← hw, h1]; clear hw w') | (go_at_call 148; refine (qdigit_any _ _).mono ?_; rintro e w' ⟨rfl, hw⟩; rw [← hw, h2]; clear hw w') | (go_at_call 151; refine (qgreat_any _ _).mono ?_; rintro e w' ⟨rfl, hw⟩; rw [← hw, h4]; clear hw w'))
    (with_reducible refine Calls.mono C.out ?_)
    rintro e w2 ⟨rfl, hw⟩
    rw [← hw]
    clear hw w2 C hX0 hX1 hte
    go_upto_region 10 with fail
    obtain ⟨hMX, hXW⟩ := HS1.out.lt
    obtain ⟨ao, cp, hat0, how0⟩ := HS1.out.ex
    have HAT0 := Lib.hid hat0
    have HOW0 := Lib.hid how0
    have HKY0 := Lib.hid HS1.out.keys
    have HSI := Lib.hid (show (W1.cell? ⟨X, 3, none⟩ = some (.slice ao ts.length cp) ∧ W1.cell? ⟨X, 1, none⟩ = some (.int .i64 a) ∧ W1.cell? ⟨X, 0, none⟩ = some (.string s)) ∧ True from ⟨⟨by simp [World.cell?, hat0], by simp [World.cell?, hat0], by simp [World.cell?, hat0]⟩, trivial⟩)
    have HSB := Lib.hid (show ∀ vv : World, (∀ b, b < W1.heap.size → (Value.slice ao ts.length cp).ownBlock ≠ some b → vv.heap[b]? = W1.heap[b]?) → vv.cell? ⟨X, 3, none⟩ = some (.slice ao ts.length cp) ∧ vv.cell? ⟨X, 1, none⟩ = some (.int .i64 a) ∧ vv.cell? ⟨X, 0, none⟩ = some (.string s) from fun vv hv => by
      have hX : ∀ i, vv.cell? ⟨X, i, none⟩ = W1.cell? ⟨X, i, none⟩ := fun i => World.cell?_of_block (hv X hXW (fun e => by have := (how0.lt X e).1; omega))
      exact ⟨(hX 3).trans HSI.out.1.1, (hX 1).trans HSI.out.1.2.1, (hX 0).trans HSI.out.1.2.2⟩)
    clear hat0 how0
    refine wp_region_till (S := (fun cur : World => cur.cell? ⟨X, 3, none⟩ = some (.slice ao ts.length cp) ∧ cur.cell? ⟨X, 1, none⟩ = some (.int .i64 a) ∧ cur.cell? ⟨X, 0, none⟩ = some (.string s))) (z := 29) (by kernel_rfl) ?_ (fun hHeld => ?_)
    · exact HSB.out W1.drew (fun b _ _ => rfl)
    have e2 : (0 : Int) ≤ (a : Int) + n := by omega
    have e3 : ((a : Int) + n).toNat = a + n := by omega
    have e4 : (a : Int) ≤ (a : Int) + n := by omega
    have e5 : (a : Int) + n ≤ s.size := by omega
    have e1 : IntKind.i64.wrap ((a : Int) + n) = (a : Int) + n := IntWalk.i64_in _ (by omega)
    refine AnyTill.take (i := 0) (v := ?_) (op_at rfl) (by kernel_rfl) (by kernel_rfl) (by kernel_rfl) (by kernel_rfl) (fun _ _ _ h => h) (Or.inl ⟨by rfl, ?_⟩) (by assumption) ?_
    rotate_left
    · (intro w hSw; (try dsimp only at hSw); go_simp; try with_reducible rfl)
    try simp only [Act.put, List.setIfInBounds_toArray, List.set_cons_zero, List.set_cons_succ]
    refine AnyTill.take (i := 1) (v := ?_) (op_at rfl) (by kernel_rfl) (by kernel_rfl) (by kernel_rfl) (by kernel_rfl) (fun _ _ _ h => h) (Or.inl ⟨by rfl, ?_⟩) (by assumption) ?_
    rotate_left
    · (intro w hSw; (try dsimp only at hSw); go_simp; try with_reducible rfl)
    try simp only [Act.put, List.setIfInBounds_toArray, List.set_cons_zero, List.set_cons_succ]
    refine AnyTill.take (i := 2) (v := ?_) (op_at rfl) (by kernel_rfl) (by kernel_rfl) (by kernel_rfl) (by kernel_rfl) (fun _ _ _ h => h) (Or.inl ⟨by rfl, ?_⟩) (by assumption) ?_
    rotate_left
    · (intro w hSw; (try dsimp only at hSw); go_simp; try with_reducible rfl)
    try simp only [Act.put, List.setIfInBounds_toArray, List.set_cons_zero, List.set_cons_succ]
    refine AnyTill.take (i := 3) (v := ?_) (op_at rfl) (by kernel_rfl) (by kernel_rfl) (by kernel_rfl) (by kernel_rfl) (fun _ _ _ h => h) (Or.inl ⟨by rfl, ?_⟩) (by assumption) ?_
    rotate_left
    · (intro w hSw; (try dsimp only at hSw); go_simp; try with_reducible rfl)
    try simp only [Act.put, List.setIfInBounds_toArray, List.set_cons_zero, List.set_cons_succ]
    refine AnyTill.take (i := 4) (v := ?_) (op_at rfl) (by kernel_rfl) (by kernel_rfl) (by kernel_rfl) (by kernel_rfl) (fun _ _ _ h => h) (Or.inl ⟨by rfl, ?_⟩) (by assumption) ?_
    rotate_left
    · (intro w hSw; (try dsimp only at hSw); go_simp; try with_reducible rfl)
    try simp only [Act.put, List.setIfInBounds_toArray, List.set_cons_zero, List.set_cons_succ]
    refine AnyTill.take (i := 5) (v := ?_) (op_at rfl) (by kernel_rfl) (by kernel_rfl) (by kernel_rfl) (by kernel_rfl) (fun _ _ _ h => h) (Or.inl ⟨by rfl, ?_⟩) (by assumption) ?_
    rotate_left
    · (intro w hSw; (try dsimp only at hSw); go_simp; try with_reducible rfl)
    try simp only [Act.put, List.setIfInBounds_toArray, List.set_cons_zero, List.set_cons_succ]
    refine AnyTill.take (i := 6) (v := ?_) (op_at rfl) (by kernel_rfl) (by kernel_rfl) (by kernel_rfl) (by kernel_rfl) (fun _ _ _ h => h) (Or.inl ⟨by rfl, ?_⟩) (by assumption) ?_
    rotate_left
    · (intro w hSw; (try dsimp only at hSw); go_simp; try with_reducible rfl)
    try simp only [Act.put, List.setIfInBounds_toArray, List.set_cons_zero, List.set_cons_succ]
    refine AnyTill.take (i := 7) (v := ?_) (op_at rfl) (by kernel_rfl) (by kernel_rfl) (by kernel_rfl) (by kernel_rfl) (fun _ _ _ h => h) (Or.inl ⟨by rfl, ?_⟩) (by assumption) ?_
    rotate_left
    · (intro w hSw; (try dsimp only at hSw); go_simp; try with_reducible rfl)
    try simp only [Act.put, List.setIfInBounds_toArray, List.set_cons_zero, List.set_cons_succ]
    refine AnyTill.take (i := 8) (v := ?_) (op_at rfl) (by kernel_rfl) (by kernel_rfl) (by kernel_rfl) (by kernel_rfl) (fun _ _ _ h => h) (Or.inl ⟨by rfl, ?_⟩) (by assumption) ?_
    rotate_left
    · (intro w hSw; (try dsimp only at hSw); go_simp; try with_reducible rfl)
    try simp only [Act.put, List.setIfInBounds_toArray, List.set_cons_zero, List.set_cons_succ]
    refine AnyTill.take (i := 9) (v := ?_) (op_at rfl) (by kernel_rfl) (by kernel_rfl) (by kernel_rfl) (by kernel_rfl) (fun _ _ _ h => h) (Or.inl ⟨by rfl, ?_⟩) (by assumption) ?_
    rotate_left
    · (intro w hSw; (try dsimp only at hSw); go_simp; try with_reducible rfl)
    try simp only [Act.put, List.setIfInBounds_toArray, List.set_cons_zero, List.set_cons_succ]
    refine AnyTill.take (i := 10) (v := ?_) (op_at rfl) (by kernel_rfl) (by kernel_rfl) (by kernel_rfl) (by kernel_rfl) (fun _ _ _ h => h) (Or.inl ⟨by rfl, ?_⟩) (by assumption) ?_
    rotate_left
    · (intro w hSw; (try dsimp only at hSw); go_simp; try with_reducible rfl)
    try simp only [Act.put, List.setIfInBounds_toArray, List.set_cons_zero, List.set_cons_succ]
    refine AnyTill.take (i := 11) (v := ?_) (op_at rfl) (by kernel_rfl) (by kernel_rfl) (by kernel_rfl) (by kernel_rfl) (fun _ _ _ h => h) (Or.inl ⟨by rfl, ?_⟩) (by assumption) ?_
    rotate_left
    · (intro w hSw; (try dsimp only at hSw); go_simp; try with_reducible rfl)
    try simp only [Act.put, List.setIfInBounds_toArray, List.set_cons_zero, List.set_cons_succ]
    refine AnyTill.take (i := 12) (v := ?_) (op_at rfl) (by kernel_rfl) (by kernel_rfl) (by kernel_rfl) (by kernel_rfl) (fun _ _ _ h => h) (Or.inl ⟨by rfl, ?_⟩) (by assumption) ?_
    rotate_left
    · (intro w hSw; (try dsimp only at hSw); go_simp; try with_reducible rfl)
    try simp only [Act.put, List.setIfInBounds_toArray, List.set_cons_zero, List.set_cons_succ]
    refine AnyTill.take (i := 13) (v := ?_) (op_at rfl) (by kernel_rfl) (by kernel_rfl) (by kernel_rfl) (by kernel_rfl) (fun _ _ _ h => h) (Or.inl ⟨by rfl, ?_⟩) (by assumption) ?_
    rotate_left
    · (intro w hSw; (try dsimp only at hSw); go_simp; try with_reducible rfl)
    try simp only [Act.put, List.setIfInBounds_toArray, List.set_cons_zero, List.set_cons_succ]
    refine AnyTill.take (i := 14) (v := ?_) (op_at rfl) (by kernel_rfl) (by kernel_rfl) (by kernel_rfl) (by kernel_rfl) (fun _ _ _ h => h) (Or.inl ⟨by rfl, ?_⟩) (by assumption) ?_
    rotate_left
    · (intro w hSw; (try dsimp only at hSw); go_simp; try with_reducible rfl)
    try simp only [Act.put, List.setIfInBounds_toArray, List.set_cons_zero, List.set_cons_succ]
    refine AnyTill.take (i := 15) (v := ?_) (op_at rfl) (by kernel_rfl) (by kernel_rfl) (by kernel_rfl) (by kernel_rfl) (fun _ _ _ h => h) (Or.inl ⟨by rfl, ?_⟩) (by assumption) ?_
    rotate_left
    · (intro w hSw; (try dsimp only at hSw); go_simp; try with_reducible rfl)
    try simp only [Act.put, List.setIfInBounds_toArray, List.set_cons_zero, List.set_cons_succ]
    refine AnyTill.take (i := 16) (v := ?_) (op_at rfl) (by kernel_rfl) (by kernel_rfl) (by kernel_rfl) (by kernel_rfl) (fun _ _ _ h => h) (Or.inl ⟨by rfl, ?_⟩) (by assumption) ?_
    rotate_left
    · (intro w hSw; (try dsimp only at hSw); go_simp; try with_reducible rfl)
    try simp only [Act.put, List.setIfInBounds_toArray, List.set_cons_zero, List.set_cons_succ]
    refine AnyTill.take (i := 17) (v := ?_) (op_at rfl) (by kernel_rfl) (by kernel_rfl) (by kernel_rfl) (by kernel_rfl) (fun _ _ _ h => h) (Or.inl ⟨by rfl, ?_⟩) (by assumption) ?_
    rotate_left
    · (intro w hSw; (try dsimp only at hSw); go_simp; try with_reducible rfl)
    try simp only [Act.put, List.setIfInBounds_toArray, List.set_cons_zero, List.set_cons_succ]
    refine AnyTill.take (i := 18) (v := ?_) (op_at rfl) (by kernel_rfl) (by kernel_rfl) (by kernel_rfl) (by kernel_rfl) (fun _ _ _ h => h) (Or.inl ⟨by rfl, ?_⟩) (by assumption) ?_
    rotate_left
    · (intro w hSw; (try dsimp only at hSw); go_simp; try with_reducible rfl)
    try simp only [Act.put, List.setIfInBounds_toArray, List.set_cons_zero, List.set_cons_succ]
    refine AnyTill.take (i := 19) (v := ?_) (op_at rfl) (by kernel_rfl) (by kernel_rfl) (by kernel_rfl) (by kernel_rfl) (fun _ _ _ h => h) (Or.inl ⟨by rfl, ?_⟩) (by assumption) ?_
    rotate_left
    · (intro w hSw; (try dsimp only at hSw); go_simp; try with_reducible rfl)
    try simp only [Act.put, List.setIfInBounds_toArray, List.set_cons_zero, List.set_cons_succ]
    refine AnyTill.take (i := 20) (v := ?_) (op_at rfl) (by kernel_rfl) (by kernel_rfl) (by kernel_rfl) (by kernel_rfl) (fun _ _ _ h => h) (Or.inl ⟨by rfl, ?_⟩) (by assumption) ?_
    rotate_left
    · (intro w hSw; (try dsimp only at hSw); go_simp; try with_reducible rfl)
    try simp only [Act.put, List.setIfInBounds_toArray, List.set_cons_zero, List.set_cons_succ]
    refine AnyTill.take (i := 21) (v := ?_) (op_at rfl) (by kernel_rfl) (by kernel_rfl) (by kernel_rfl) (by kernel_rfl) (fun _ _ _ h => h) (Or.inl ⟨by rfl, ?_⟩) (by assumption) ?_
    rotate_left
    · (intro w hSw; (try dsimp only at hSw); go_simp; try with_reducible rfl)
    try simp only [Act.put, List.setIfInBounds_toArray, List.set_cons_zero, List.set_cons_succ]
    refine AnyTill.take (i := 22) (v := ?_) (op_at rfl) (by kernel_rfl) (by kernel_rfl) (by kernel_rfl) (by kernel_rfl) (fun _ _ _ h => h) (Or.inl ⟨by rfl, ?_⟩) (by assumption) ?_
    rotate_left
    · (intro w hSw; (try dsimp only at hSw); go_simp; try with_reducible rfl)
    try simp only [Act.put, List.setIfInBounds_toArray, List.set_cons_zero, List.set_cons_succ]
    refine AnyTill.take (i := 23) (v := ?_) (op_at rfl) (by kernel_rfl) (by kernel_rfl) (by kernel_rfl) (by kernel_rfl) (fun _ _ _ h => h) (Or.inl ⟨by rfl, ?_⟩) (by assumption) ?_
    rotate_left
    · (intro w hSw; (try dsimp only at hSw); go_simp; try with_reducible rfl)
    try simp only [Act.put, List.setIfInBounds_toArray, List.set_cons_zero, List.set_cons_succ]
    refine AnyTill.take (i := 24) (v := ?_) (op_at rfl) (by kernel_rfl) (by kernel_rfl) (by kernel_rfl) (by kernel_rfl) (fun _ _ _ h => h) (Or.inl ⟨by rfl, ?_⟩) (by assumption) ?_
    rotate_left
    · (intro w hSw; (try dsimp only at hSw); go_simp; try with_reducible rfl)
    try simp only [Act.put, List.setIfInBounds_toArray, List.set_cons_zero, List.set_cons_succ]
    clear e1 e2 e3 e4 e5
    refine AnyTill.next (i := 25) (by kernel_rfl) (op_at rfl) (by decide) (fun K hK => ?_)
    go_simp
    obtain ⟨W5, hW5⟩ : ∃ V, V = (W1.alloc (.cells #[.int .i64 4, .string (s.extract a (a + n)), .int .i64 0, .int .i64 a] 96)).drew := ⟨_, rfl⟩
    have B5 := Lib.hid (show Below W1.heap.size W1 W5 from hW5 ▸ bdrew (nbelow1 _ _))
    have hz5 : W5.heap.size = W1.heap.size + 1 := by rw [hW5]; show (W1.alloc _).heap.size = _; simp
    have N5 := Lib.hid (show ∀ j u, (tkCells (⟨4, (s.extract a (a + n)).data.toList, 0, a⟩ : Tk))[j]? = some u → W5.cell? ((⟨W1.heap.size, 0, none⟩ : Addr).add j) = some u from hW5 ▸ cells4_new W1 _ _ _ _ _)
    have O5 := Lib.hid (show W5.ownsRow (X + 1) 96 4 (.slice ao ts.length cp) ts.length (tksCells ts) from own_below HOW0.out B5.out)
    rw [← hW5]
    clear hW5
    refine hK.out _ _ ?_ (fun hHeld => ?_)
    · exact HSB.out W5 (fun b hb _ => B5.out.block b hb)
    clear hK K
    try simp only [Act.put, List.setIfInBounds_toArray, List.set_cons_zero, List.set_cons_succ]
    refine AnyTill.next (i := 26) (by kernel_rfl) (op_at rfl) (by decide) (fun K hK => ?_)
    refine step_append_lies _ rfl _ _ 87 rfl (X + 1) 96 i0 (.agg #[.int .i64 0, .string ⟨#[]⟩, .int .i64 0, .int .i64 0]) 4 40 Tryz.underlying87 HI0.out.1 HI0.out.2.1 HI0.out.2.2.1 HI0.out.2.2.2 rfl (by decide) _ _ _ rfl O5.out ⟨W1.heap.size, 0, none⟩ 1 1 (tkCells (⟨4, (s.extract a (a + n)).data.toList, 0, a⟩ : Tk)) rfl rfl N5.out (tk_one _) (by decide) (by unfold maxLen; omega) (by omega) (by omega) _ rfl ?_
    intro gb cap' w6 hown' hgrow' hat' hltg
    have HG6 := Lib.hid hgrow'
    have HO6 := Lib.hid hown'
    have HX6 := Lib.hid (show w6.heap[X]? = some (.cells #[.string s, .int .i64 a, .map (some M), .slice ao ts.length cp, .pointer none] 129 (0, 0)) from (hgrow'.block X (by omega) (fun e => by have := (HOW0.out.lt X e.symm).1; omega)).trans ((B5.out.block X hXW).trans HAT0.out))
    clear hown' hgrow' hat' hltg
    refine hK.out _ _ ?_ (fun hHeld => ?_)
    · exact HSB.out w6 (fun b hb hne => (HG6.out.block b (by omega) (fun e => hne e.symm)).trans (B5.out.block b hb))
    clear hK K
    try simp only [Act.put, List.setIfInBounds_toArray, List.set_cons_zero, List.set_cons_succ]
    refine AnyTill.next (i := 27) (by kernel_rfl) (op_at rfl) (by decide) (fun K hK => ?_)
    go_simp
    refine hK.out _ _ ?_ (fun hHeld => ?_)
    · exact hHeld
    clear hK K
    try simp only [Act.put, List.setIfInBounds_toArray, List.set_cons_zero, List.set_cons_succ]
    refine AnyTill.next (i := 28) (by kernel_rfl) (op_at rfl) (by decide) (fun K hK => ?_)
    go_simp
    refine hK.out _ _ ?_ (fun hHeld => ?_)
    · exact hHeld
    clear hK K
    try simp only [Act.put, List.setIfInBounds_toArray, List.set_cons_zero, List.set_cons_succ]
    have hX3 : w6.cell? ⟨X, 3, none⟩ = some (.slice ao ts.length cp) := by simp [World.cell?, HX6.out]
    have hf6 : w6.frozen? ⟨X, 3, none⟩ = false := by simp [World.frozen?, HX6.out]
    have hX6l : X < w6.heap.size := (Array.getElem?_eq_some_iff.1 HX6.out).1
    refine AnyTill.last (z := 29) (by kernel_rfl) (op_at rfl) (by kernel_rfl) (fun K hK => ?_)
    go_simp
    refine hK.out _ _ ?_
    clear hK K hHeld
    obtain ⟨W7, hW7⟩ : ∃ V, V = w6.setCell ⟨X, 3, none⟩ (.slice (some ⟨gb, 0, none⟩) (ts.length + 1) cap') := ⟨_, rfl⟩
    have Z7 := Lib.hid (show SC X M s a (ts ++ [(⟨4, (s.extract a (a + n)).data.toList, 0, a⟩ : Tk)]) W7 ∧ Below X W1 W7 from hW7 ▸ sc_append hMX hXW HOW0.out HKY0.out B5.out HX6.out HO6.out HG6.out)
    have HS7 := Lib.hid Z7.out.1
    have BX7 := Lib.hid Z7.out.2
    rw [← hW7]
    clear hW7 hX3 hf6 hX6l HX6 HO6 HG6 O5 N5 B5 HSB HSI HAT0 HOW0 HKY0 Z7
    have BX := Lib.hid (BX1.out.trans BX7.out)
    by_cases h33 : n = 3
    · have q3 : ((n : Int) != 3) = false := by rw [h33]; rfl
      have R := Lib.hid (K.out.trans (Q.out.trans (if_pos h33)))
      have TT := Lib.hid (show (s.extract a (a + n)).data.toList = (s.data.toList.drop a).take 3 by rw [T.out, h33])
      have HN := Lib.hid (show (n : Int) = (3 : Nat) by omega)
      clear h33
      go_wp2_with fail
      go_ret2
      exact tokQ_ok R.out BX.out HN.out (by rw [TT.out]) HS7.out
    · have q3 : ((n : Int) != 3) = true := by rw [bne_iff_ne]; omega
      have R := Lib.hid (K.out.trans (Q.out.trans (if_neg h33)))
      clear h33
      go_wp2_with fail
      go_ret2
      exact tokQ_err R.out (by decide) BX.out HS7.out
  replace K := Lib.hid (K.out.trans ((if_neg (by rw [h4]; decide)).trans (mark_eq _ _ _)))
  have HPX := Lib.hid (pre_two s[a] (s.data.toList.drop (a + 1)))
  have T1 := Lib.hid (show (s.extract a s.size).data.toList = s[a] :: s.data.toList.drop (a + 1) by rw [ext_list, ← size_list, ← D.out]; exact List.take_of_length_le (by rw [List.length_drop]; omega))
  go_upto_region 15 with (first | (go_at_call 146; refine (qsmall_any _ _).mono ?_; rintro e w' ⟨rfl, hw⟩; rw [← hw, h1]; clear hw w') | (go_at_call 148; refine (qdigit_any _ _).mono ?_; rintro e w' ⟨rfl, hw⟩; rw [← hw, h2]; clear hw w') | (go_at_call 151; refine (qgreat_any _ _).mono ?_; rintro e w' ⟨rfl, hw⟩; rw [← hw, h4]; clear hw w'))
  have CPf := Lib.hid (fun (v : World) => Tryz.strings_HasPrefix (s.extract a s.size) ⟨#[60, 61]⟩ v)
  rw [T1.out, show (⟨#[60, 61]⟩ : ByteArray).data.toList = [60, 61] from rfl] at CPf
  generalize hhp : Lib.hasPrefix (s[a] :: s.data.toList.drop (a + 1)) [60, 61] = hp at CPf HPX
  go_quiet ((go_at_call 152; exact Calls.quiet_of_same (CPf.out _)))
  obtain ⟨W2, hW2⟩ : ∃ W, W = W1.drewN nq := ⟨_, rfl⟩
  have HS2 := Lib.hid (show SC X M s a ts W2 from hW2 ▸ HS1.out.below (Go.Proofs.YtcndknkdhlmdnaaGreatDoor.below_drewN W1 nq))
  have BX2 := Lib.hid (show Below X w W2 from hW2 ▸ (BX1.out.trans ((Go.Proofs.YtcndknkdhlmdnaaGreatDoor.below_drewN W1 nq).mono (Nat.le_of_lt HS1.out.lt.2))))
  rw [← hW2]
  clear hW2 hX0 hX1 HS1 BX1 CPf hhp T1
  obtain ⟨hX0, hX1⟩ := HS2.out.sb
  have HLN := Lib.hid (show hp = true → a + 2 ≤ s.size from fun h => by
    have h2 := HPX.out
    rw [h] at h2
    have h3 := of_decide_eq_true (Bool.and_eq_true .. ▸ h2.symm : _ ∧ _).2
    have h4 : (s.data.toList.drop (a + 1)).headD 0 ≠ 0 := fun e => by rw [e] at h3; exact absurd h3 (by decide)
    have := drop_ne h4
    rw [size_list] at this
    omega)
  cases hp
  case true =>
    have hln : a + 2 ≤ s.size := HLN.out rfl
    have hpx := HPX.out
    replace K := Lib.hid (K.out.trans (if_pos (by
      have h3 := (Bool.and_eq_true .. ▸ hpx.symm : _ ∧ _)
      exact ⟨of_decide_eq_true h3.1, of_decide_eq_true h3.2⟩)))
    have T := Lib.hid (show (s.extract a (a + 2)).data.toList = [60, 61] by
      have h3 := (Bool.and_eq_true .. ▸ hpx.symm : _ ∧ _)
      have e1 := of_decide_eq_true h3.1
      have e2 := of_decide_eq_true h3.2
      have g1 : s[a] = 60 := UInt8.toNat_inj.1 (Int.ofNat.inj e1)
      have g2 : (s.data.toList.drop (a + 1)).headD 0 = 61 := UInt8.toNat_inj.1 (Int.ofNat.inj e2)
      rw [ext_list, Nat.add_sub_cancel_left, D.out, g1]
      cases hr : s.data.toList.drop (a + 1) with
      | nil => rw [hr] at g2; exact absurd g2 (by decide)
      | cons x r => rw [hr] at g2; rw [show x = 61 from g2]; rfl)
    clear hpx HPX HLN hX0 hX1
    go_upto_region 19 with fail
    obtain ⟨hMX, hXW⟩ := HS2.out.lt
    obtain ⟨ao, cp, hat0, how0⟩ := HS2.out.ex
    have HAT0 := Lib.hid hat0
    have HOW0 := Lib.hid how0
    have HKY0 := Lib.hid HS2.out.keys
    have HSI := Lib.hid (show (W2.cell? ⟨X, 3, none⟩ = some (.slice ao ts.length cp) ∧ W2.cell? ⟨X, 1, none⟩ = some (.int .i64 a) ∧ W2.cell? ⟨X, 0, none⟩ = some (.string s)) ∧ True from ⟨⟨by simp [World.cell?, hat0], by simp [World.cell?, hat0], by simp [World.cell?, hat0]⟩, trivial⟩)
    have HSB := Lib.hid (show ∀ vv : World, (∀ b, b < W2.heap.size → (Value.slice ao ts.length cp).ownBlock ≠ some b → vv.heap[b]? = W2.heap[b]?) → vv.cell? ⟨X, 3, none⟩ = some (.slice ao ts.length cp) ∧ vv.cell? ⟨X, 1, none⟩ = some (.int .i64 a) ∧ vv.cell? ⟨X, 0, none⟩ = some (.string s) from fun vv hv => by
      have hX : ∀ i, vv.cell? ⟨X, i, none⟩ = W2.cell? ⟨X, i, none⟩ := fun i => World.cell?_of_block (hv X hXW (fun e => by have := (how0.lt X e).1; omega))
      exact ⟨(hX 3).trans HSI.out.1.1, (hX 1).trans HSI.out.1.2.1, (hX 0).trans HSI.out.1.2.2⟩)
    clear hat0 how0
    refine wp_region_till (S := (fun cur : World => cur.cell? ⟨X, 3, none⟩ = some (.slice ao ts.length cp) ∧ cur.cell? ⟨X, 1, none⟩ = some (.int .i64 a) ∧ cur.cell? ⟨X, 0, none⟩ = some (.string s))) (z := 29) (by kernel_rfl) ?_ (fun hHeld => ?_)
    · exact HSB.out W2.drew (fun b _ _ => rfl)
    have e2 : (0 : Int) ≤ (a : Int) + 2 := by omega
    have e3 : ((a : Int) + 2).toNat = a + 2 := by omega
    have e4 : (a : Int) ≤ (a : Int) + 2 := by omega
    have e5 : (a : Int) + 2 ≤ s.size := by omega
    have e1 : IntKind.i64.wrap ((a : Int) + 2) = (a : Int) + 2 := IntWalk.i64_in _ (by omega)
    refine AnyTill.take (i := 0) (v := ?_) (op_at rfl) (by kernel_rfl) (by kernel_rfl) (by kernel_rfl) (by kernel_rfl) (fun _ _ _ h => h) (Or.inl ⟨by rfl, ?_⟩) (by assumption) ?_
    rotate_left
    · (intro w hSw; (try dsimp only at hSw); go_simp; try with_reducible rfl)
    try simp only [Act.put, List.setIfInBounds_toArray, List.set_cons_zero, List.set_cons_succ]
    refine AnyTill.take (i := 1) (v := ?_) (op_at rfl) (by kernel_rfl) (by kernel_rfl) (by kernel_rfl) (by kernel_rfl) (fun _ _ _ h => h) (Or.inl ⟨by rfl, ?_⟩) (by assumption) ?_
    rotate_left
    · (intro w hSw; (try dsimp only at hSw); go_simp; try with_reducible rfl)
    try simp only [Act.put, List.setIfInBounds_toArray, List.set_cons_zero, List.set_cons_succ]
    refine AnyTill.take (i := 2) (v := ?_) (op_at rfl) (by kernel_rfl) (by kernel_rfl) (by kernel_rfl) (by kernel_rfl) (fun _ _ _ h => h) (Or.inl ⟨by rfl, ?_⟩) (by assumption) ?_
    rotate_left
    · (intro w hSw; (try dsimp only at hSw); go_simp; try with_reducible rfl)
    try simp only [Act.put, List.setIfInBounds_toArray, List.set_cons_zero, List.set_cons_succ]
    refine AnyTill.take (i := 3) (v := ?_) (op_at rfl) (by kernel_rfl) (by kernel_rfl) (by kernel_rfl) (by kernel_rfl) (fun _ _ _ h => h) (Or.inl ⟨by rfl, ?_⟩) (by assumption) ?_
    rotate_left
    · (intro w hSw; (try dsimp only at hSw); go_simp; try with_reducible rfl)
    try simp only [Act.put, List.setIfInBounds_toArray, List.set_cons_zero, List.set_cons_succ]
    refine AnyTill.take (i := 4) (v := ?_) (op_at rfl) (by kernel_rfl) (by kernel_rfl) (by kernel_rfl) (by kernel_rfl) (fun _ _ _ h => h) (Or.inl ⟨by rfl, ?_⟩) (by assumption) ?_
    rotate_left
    · (intro w hSw; (try dsimp only at hSw); go_simp; try with_reducible rfl)
    try simp only [Act.put, List.setIfInBounds_toArray, List.set_cons_zero, List.set_cons_succ]
    refine AnyTill.take (i := 5) (v := ?_) (op_at rfl) (by kernel_rfl) (by kernel_rfl) (by kernel_rfl) (by kernel_rfl) (fun _ _ _ h => h) (Or.inl ⟨by rfl, ?_⟩) (by assumption) ?_
    rotate_left
    · (intro w hSw; (try dsimp only at hSw); go_simp; try with_reducible rfl)
    try simp only [Act.put, List.setIfInBounds_toArray, List.set_cons_zero, List.set_cons_succ]
    refine AnyTill.take (i := 6) (v := ?_) (op_at rfl) (by kernel_rfl) (by kernel_rfl) (by kernel_rfl) (by kernel_rfl) (fun _ _ _ h => h) (Or.inl ⟨by rfl, ?_⟩) (by assumption) ?_
    rotate_left
    · (intro w hSw; (try dsimp only at hSw); go_simp; try with_reducible rfl)
    try simp only [Act.put, List.setIfInBounds_toArray, List.set_cons_zero, List.set_cons_succ]
    refine AnyTill.take (i := 7) (v := ?_) (op_at rfl) (by kernel_rfl) (by kernel_rfl) (by kernel_rfl) (by kernel_rfl) (fun _ _ _ h => h) (Or.inl ⟨by rfl, ?_⟩) (by assumption) ?_
    rotate_left
    · (intro w hSw; (try dsimp only at hSw); go_simp; try with_reducible rfl)
    try simp only [Act.put, List.setIfInBounds_toArray, List.set_cons_zero, List.set_cons_succ]
    refine AnyTill.take (i := 8) (v := ?_) (op_at rfl) (by kernel_rfl) (by kernel_rfl) (by kernel_rfl) (by kernel_rfl) (fun _ _ _ h => h) (Or.inl ⟨by rfl, ?_⟩) (by assumption) ?_
    rotate_left
    · (intro w hSw; (try dsimp only at hSw); go_simp; try with_reducible rfl)
    try simp only [Act.put, List.setIfInBounds_toArray, List.set_cons_zero, List.set_cons_succ]
    refine AnyTill.take (i := 9) (v := ?_) (op_at rfl) (by kernel_rfl) (by kernel_rfl) (by kernel_rfl) (by kernel_rfl) (fun _ _ _ h => h) (Or.inl ⟨by rfl, ?_⟩) (by assumption) ?_
    rotate_left
    · (intro w hSw; (try dsimp only at hSw); go_simp; try with_reducible rfl)
    try simp only [Act.put, List.setIfInBounds_toArray, List.set_cons_zero, List.set_cons_succ]
    refine AnyTill.take (i := 10) (v := ?_) (op_at rfl) (by kernel_rfl) (by kernel_rfl) (by kernel_rfl) (by kernel_rfl) (fun _ _ _ h => h) (Or.inl ⟨by rfl, ?_⟩) (by assumption) ?_
    rotate_left
    · (intro w hSw; (try dsimp only at hSw); go_simp; try with_reducible rfl)
    try simp only [Act.put, List.setIfInBounds_toArray, List.set_cons_zero, List.set_cons_succ]
    refine AnyTill.take (i := 11) (v := ?_) (op_at rfl) (by kernel_rfl) (by kernel_rfl) (by kernel_rfl) (by kernel_rfl) (fun _ _ _ h => h) (Or.inl ⟨by rfl, ?_⟩) (by assumption) ?_
    rotate_left
    · (intro w hSw; (try dsimp only at hSw); go_simp; try with_reducible rfl)
    try simp only [Act.put, List.setIfInBounds_toArray, List.set_cons_zero, List.set_cons_succ]
    refine AnyTill.take (i := 12) (v := ?_) (op_at rfl) (by kernel_rfl) (by kernel_rfl) (by kernel_rfl) (by kernel_rfl) (fun _ _ _ h => h) (Or.inl ⟨by rfl, ?_⟩) (by assumption) ?_
    rotate_left
    · (intro w hSw; (try dsimp only at hSw); go_simp; try with_reducible rfl)
    try simp only [Act.put, List.setIfInBounds_toArray, List.set_cons_zero, List.set_cons_succ]
    refine AnyTill.take (i := 13) (v := ?_) (op_at rfl) (by kernel_rfl) (by kernel_rfl) (by kernel_rfl) (by kernel_rfl) (fun _ _ _ h => h) (Or.inl ⟨by rfl, ?_⟩) (by assumption) ?_
    rotate_left
    · (intro w hSw; (try dsimp only at hSw); go_simp; try with_reducible rfl)
    try simp only [Act.put, List.setIfInBounds_toArray, List.set_cons_zero, List.set_cons_succ]
    refine AnyTill.take (i := 14) (v := ?_) (op_at rfl) (by kernel_rfl) (by kernel_rfl) (by kernel_rfl) (by kernel_rfl) (fun _ _ _ h => h) (Or.inl ⟨by rfl, ?_⟩) (by assumption) ?_
    rotate_left
    · (intro w hSw; (try dsimp only at hSw); go_simp; try with_reducible rfl)
    try simp only [Act.put, List.setIfInBounds_toArray, List.set_cons_zero, List.set_cons_succ]
    refine AnyTill.take (i := 15) (v := ?_) (op_at rfl) (by kernel_rfl) (by kernel_rfl) (by kernel_rfl) (by kernel_rfl) (fun _ _ _ h => h) (Or.inl ⟨by rfl, ?_⟩) (by assumption) ?_
    rotate_left
    · (intro w hSw; (try dsimp only at hSw); go_simp; try with_reducible rfl)
    try simp only [Act.put, List.setIfInBounds_toArray, List.set_cons_zero, List.set_cons_succ]
    refine AnyTill.take (i := 16) (v := ?_) (op_at rfl) (by kernel_rfl) (by kernel_rfl) (by kernel_rfl) (by kernel_rfl) (fun _ _ _ h => h) (Or.inl ⟨by rfl, ?_⟩) (by assumption) ?_
    rotate_left
    · (intro w hSw; (try dsimp only at hSw); go_simp; try with_reducible rfl)
    try simp only [Act.put, List.setIfInBounds_toArray, List.set_cons_zero, List.set_cons_succ]
    refine AnyTill.take (i := 17) (v := ?_) (op_at rfl) (by kernel_rfl) (by kernel_rfl) (by kernel_rfl) (by kernel_rfl) (fun _ _ _ h => h) (Or.inl ⟨by rfl, ?_⟩) (by assumption) ?_
    rotate_left
    · (intro w hSw; (try dsimp only at hSw); go_simp; try with_reducible rfl)
    try simp only [Act.put, List.setIfInBounds_toArray, List.set_cons_zero, List.set_cons_succ]
    refine AnyTill.take (i := 18) (v := ?_) (op_at rfl) (by kernel_rfl) (by kernel_rfl) (by kernel_rfl) (by kernel_rfl) (fun _ _ _ h => h) (Or.inl ⟨by rfl, ?_⟩) (by assumption) ?_
    rotate_left
    · (intro w hSw; (try dsimp only at hSw); go_simp; try with_reducible rfl)
    try simp only [Act.put, List.setIfInBounds_toArray, List.set_cons_zero, List.set_cons_succ]
    refine AnyTill.take (i := 19) (v := ?_) (op_at rfl) (by kernel_rfl) (by kernel_rfl) (by kernel_rfl) (by kernel_rfl) (fun _ _ _ h => h) (Or.inl ⟨by rfl, ?_⟩) (by assumption) ?_
    rotate_left
    · (intro w hSw; (try dsimp only at hSw); go_simp; try with_reducible rfl)
    try simp only [Act.put, List.setIfInBounds_toArray, List.set_cons_zero, List.set_cons_succ]
    refine AnyTill.take (i := 20) (v := ?_) (op_at rfl) (by kernel_rfl) (by kernel_rfl) (by kernel_rfl) (by kernel_rfl) (fun _ _ _ h => h) (Or.inl ⟨by rfl, ?_⟩) (by assumption) ?_
    rotate_left
    · (intro w hSw; (try dsimp only at hSw); go_simp; try with_reducible rfl)
    try simp only [Act.put, List.setIfInBounds_toArray, List.set_cons_zero, List.set_cons_succ]
    refine AnyTill.take (i := 21) (v := ?_) (op_at rfl) (by kernel_rfl) (by kernel_rfl) (by kernel_rfl) (by kernel_rfl) (fun _ _ _ h => h) (Or.inl ⟨by rfl, ?_⟩) (by assumption) ?_
    rotate_left
    · (intro w hSw; (try dsimp only at hSw); go_simp; try with_reducible rfl)
    try simp only [Act.put, List.setIfInBounds_toArray, List.set_cons_zero, List.set_cons_succ]
    refine AnyTill.take (i := 22) (v := ?_) (op_at rfl) (by kernel_rfl) (by kernel_rfl) (by kernel_rfl) (by kernel_rfl) (fun _ _ _ h => h) (Or.inl ⟨by rfl, ?_⟩) (by assumption) ?_
    rotate_left
    · (intro w hSw; (try dsimp only at hSw); go_simp; try with_reducible rfl)
    try simp only [Act.put, List.setIfInBounds_toArray, List.set_cons_zero, List.set_cons_succ]
    refine AnyTill.take (i := 23) (v := ?_) (op_at rfl) (by kernel_rfl) (by kernel_rfl) (by kernel_rfl) (by kernel_rfl) (fun _ _ _ h => h) (Or.inl ⟨by rfl, ?_⟩) (by assumption) ?_
    rotate_left
    · (intro w hSw; (try dsimp only at hSw); go_simp; try with_reducible rfl)
    try simp only [Act.put, List.setIfInBounds_toArray, List.set_cons_zero, List.set_cons_succ]
    refine AnyTill.take (i := 24) (v := ?_) (op_at rfl) (by kernel_rfl) (by kernel_rfl) (by kernel_rfl) (by kernel_rfl) (fun _ _ _ h => h) (Or.inl ⟨by rfl, ?_⟩) (by assumption) ?_
    rotate_left
    · (intro w hSw; (try dsimp only at hSw); go_simp; try with_reducible rfl)
    try simp only [Act.put, List.setIfInBounds_toArray, List.set_cons_zero, List.set_cons_succ]
    clear e1 e2 e3 e4 e5
    refine AnyTill.next (i := 25) (by kernel_rfl) (op_at rfl) (by decide) (fun K hK => ?_)
    go_simp
    obtain ⟨W5, hW5⟩ : ∃ V, V = (W2.alloc (.cells #[.int .i64 8, .string (s.extract a (a + 2)), .int .i64 0, .int .i64 a] 96)).drew := ⟨_, rfl⟩
    have B5 := Lib.hid (show Below W2.heap.size W2 W5 from hW5 ▸ bdrew (nbelow1 _ _))
    have hz5 : W5.heap.size = W2.heap.size + 1 := by rw [hW5]; show (W2.alloc _).heap.size = _; simp
    have N5 := Lib.hid (show ∀ j u, (tkCells (⟨8, (s.extract a (a + 2)).data.toList, 0, a⟩ : Tk))[j]? = some u → W5.cell? ((⟨W2.heap.size, 0, none⟩ : Addr).add j) = some u from hW5 ▸ cells4_new W2 _ _ _ _ _)
    have O5 := Lib.hid (show W5.ownsRow (X + 1) 96 4 (.slice ao ts.length cp) ts.length (tksCells ts) from own_below HOW0.out B5.out)
    rw [← hW5]
    clear hW5
    refine hK.out _ _ ?_ (fun hHeld => ?_)
    · exact HSB.out W5 (fun b hb _ => B5.out.block b hb)
    clear hK K
    try simp only [Act.put, List.setIfInBounds_toArray, List.set_cons_zero, List.set_cons_succ]
    refine AnyTill.next (i := 26) (by kernel_rfl) (op_at rfl) (by decide) (fun K hK => ?_)
    refine step_append_lies _ rfl _ _ 87 rfl (X + 1) 96 i0 (.agg #[.int .i64 0, .string ⟨#[]⟩, .int .i64 0, .int .i64 0]) 4 40 Tryz.underlying87 HI0.out.1 HI0.out.2.1 HI0.out.2.2.1 HI0.out.2.2.2 rfl (by decide) _ _ _ rfl O5.out ⟨W2.heap.size, 0, none⟩ 1 1 (tkCells (⟨8, (s.extract a (a + 2)).data.toList, 0, a⟩ : Tk)) rfl rfl N5.out (tk_one _) (by decide) (by unfold maxLen; omega) (by omega) (by omega) _ rfl ?_
    intro gb cap' w6 hown' hgrow' hat' hltg
    have HG6 := Lib.hid hgrow'
    have HO6 := Lib.hid hown'
    have HX6 := Lib.hid (show w6.heap[X]? = some (.cells #[.string s, .int .i64 a, .map (some M), .slice ao ts.length cp, .pointer none] 129 (0, 0)) from (hgrow'.block X (by omega) (fun e => by have := (HOW0.out.lt X e.symm).1; omega)).trans ((B5.out.block X hXW).trans HAT0.out))
    clear hown' hgrow' hat' hltg
    refine hK.out _ _ ?_ (fun hHeld => ?_)
    · exact HSB.out w6 (fun b hb hne => (HG6.out.block b (by omega) (fun e => hne e.symm)).trans (B5.out.block b hb))
    clear hK K
    try simp only [Act.put, List.setIfInBounds_toArray, List.set_cons_zero, List.set_cons_succ]
    refine AnyTill.next (i := 27) (by kernel_rfl) (op_at rfl) (by decide) (fun K hK => ?_)
    go_simp
    refine hK.out _ _ ?_ (fun hHeld => ?_)
    · exact hHeld
    clear hK K
    try simp only [Act.put, List.setIfInBounds_toArray, List.set_cons_zero, List.set_cons_succ]
    refine AnyTill.next (i := 28) (by kernel_rfl) (op_at rfl) (by decide) (fun K hK => ?_)
    go_simp
    refine hK.out _ _ ?_ (fun hHeld => ?_)
    · exact hHeld
    clear hK K
    try simp only [Act.put, List.setIfInBounds_toArray, List.set_cons_zero, List.set_cons_succ]
    have hX3 : w6.cell? ⟨X, 3, none⟩ = some (.slice ao ts.length cp) := by simp [World.cell?, HX6.out]
    have hf6 : w6.frozen? ⟨X, 3, none⟩ = false := by simp [World.frozen?, HX6.out]
    have hX6l : X < w6.heap.size := (Array.getElem?_eq_some_iff.1 HX6.out).1
    refine AnyTill.last (z := 29) (by kernel_rfl) (op_at rfl) (by kernel_rfl) (fun K hK => ?_)
    go_simp
    refine hK.out _ _ ?_
    clear hK K hHeld
    obtain ⟨W7, hW7⟩ : ∃ V, V = w6.setCell ⟨X, 3, none⟩ (.slice (some ⟨gb, 0, none⟩) (ts.length + 1) cap') := ⟨_, rfl⟩
    have Z7 := Lib.hid (show SC X M s a (ts ++ [(⟨8, (s.extract a (a + 2)).data.toList, 0, a⟩ : Tk)]) W7 ∧ Below X W2 W7 from hW7 ▸ sc_append hMX hXW HOW0.out HKY0.out B5.out HX6.out HO6.out HG6.out)
    have HS7 := Lib.hid Z7.out.1
    have BX7 := Lib.hid Z7.out.2
    rw [← hW7]
    clear hW7 hX3 hf6 hX6l HX6 HO6 HG6 O5 N5 B5 HSB HSI HAT0 HOW0 HKY0 Z7
    have BX := Lib.hid (BX2.out.trans BX7.out)
    go_wp2_with fail
    go_ret2
    exact tokQ_ok K.out BX.out rfl (by rw [T.out]) HS7.out
  have hpx := HPX.out
  replace K := Lib.hid (K.out.trans (if_neg (fun e => by rw [decide_eq_true e.1, decide_eq_true e.2] at hpx; cases hpx)))
  clear hpx HPX HLN
  have CI := Lib.hid (fun (v : World) => Tryz.strings_IndexByte ⟨#[40, 41, 44, 59, 61, 60, 43, 45, 42, 47]⟩ (s[a].toNat : Int) v)
  have HIX := Lib.hid (mark_index s[a])
  generalize hix : Lib.indexByte (⟨#[40, 41, 44, 59, 61, 60, 43, 45, 42, 47]⟩ : ByteArray).data.toList (s[a].toNat : Int).toNat.toUInt8 = ix at CI HIX
  clear hix
  go_upto_region 17 with fail
  go_quiet ((go_at_call 153; exact Calls.quiet_of_same (CI.out _)))
  obtain ⟨W3, hW3⟩ : ∃ W, W = W2.drewN nq := ⟨_, rfl⟩
  have HS3 := Lib.hid (show SC X M s a ts W3 from hW3 ▸ HS2.out.below (Go.Proofs.YtcndknkdhlmdnaaGreatDoor.below_drewN W2 nq))
  have BX3 := Lib.hid (show Below X w W3 from hW3 ▸ (BX2.out.trans ((Go.Proofs.YtcndknkdhlmdnaaGreatDoor.below_drewN W2 nq).mono (Nat.le_of_lt HS2.out.lt.2))))
  rw [← hW3]
  clear hW3 hX0 hX1 HS2 BX2 CI
  by_cases hneg : ix < 0
  · have R := Lib.hid (K.out.trans (if_neg (fun e => by have := HIX.out; rw [e, decide_eq_true hneg] at this; cases this)))
    obtain ⟨hX0, hX1⟩ := HS3.out.sb
    go_wp2_with fail
    go_ret2
    exact tokQ_err R.out (by decide) BX3.out HS3.out
  have R := Lib.hid (K.out.trans (if_pos (by have := HIX.out; rw [decide_eq_false hneg] at this; revert this; cases markTab.contains s[a] <;> simp)))
  have T := Lib.hid (show (s.extract a (a + 1)).data.toList = [s[a]] by rw [ext_list, Nat.add_sub_cancel_left, D.out]; rfl)
  go_upto_region 19 with fail
  obtain ⟨hMX, hXW⟩ := HS3.out.lt
  obtain ⟨ao, cp, hat0, how0⟩ := HS3.out.ex
  have HAT0 := Lib.hid hat0
  have HOW0 := Lib.hid how0
  have HKY0 := Lib.hid HS3.out.keys
  have HSI := Lib.hid (show (W3.cell? ⟨X, 3, none⟩ = some (.slice ao ts.length cp) ∧ W3.cell? ⟨X, 1, none⟩ = some (.int .i64 a) ∧ W3.cell? ⟨X, 0, none⟩ = some (.string s)) ∧ True from ⟨⟨by simp [World.cell?, hat0], by simp [World.cell?, hat0], by simp [World.cell?, hat0]⟩, trivial⟩)
  have HSB := Lib.hid (show ∀ vv : World, (∀ b, b < W3.heap.size → (Value.slice ao ts.length cp).ownBlock ≠ some b → vv.heap[b]? = W3.heap[b]?) → vv.cell? ⟨X, 3, none⟩ = some (.slice ao ts.length cp) ∧ vv.cell? ⟨X, 1, none⟩ = some (.int .i64 a) ∧ vv.cell? ⟨X, 0, none⟩ = some (.string s) from fun vv hv => by
    have hX : ∀ i, vv.cell? ⟨X, i, none⟩ = W3.cell? ⟨X, i, none⟩ := fun i => World.cell?_of_block (hv X hXW (fun e => by have := (how0.lt X e).1; omega))
    exact ⟨(hX 3).trans HSI.out.1.1, (hX 1).trans HSI.out.1.2.1, (hX 0).trans HSI.out.1.2.2⟩)
  clear hat0 how0
  refine wp_region_till (S := (fun cur : World => cur.cell? ⟨X, 3, none⟩ = some (.slice ao ts.length cp) ∧ cur.cell? ⟨X, 1, none⟩ = some (.int .i64 a) ∧ cur.cell? ⟨X, 0, none⟩ = some (.string s))) (z := 29) (by kernel_rfl) ?_ (fun hHeld => ?_)
  · exact HSB.out W3.drew (fun b _ _ => rfl)
  have e2 : (0 : Int) ≤ (a : Int) + 1 := by omega
  have e3 : ((a : Int) + 1).toNat = a + 1 := by omega
  have e4 : (a : Int) ≤ (a : Int) + 1 := by omega
  have e5 : (a : Int) + 1 ≤ s.size := by omega
  have e1 : IntKind.i64.wrap ((a : Int) + 1) = (a : Int) + 1 := IntWalk.i64_in _ (by omega)
  refine AnyTill.take (i := 0) (v := ?_) (op_at rfl) (by kernel_rfl) (by kernel_rfl) (by kernel_rfl) (by kernel_rfl) (fun _ _ _ h => h) (Or.inl ⟨by rfl, ?_⟩) (by assumption) ?_
  rotate_left
  · (intro w hSw; (try dsimp only at hSw); go_simp; try with_reducible rfl)
  try simp only [Act.put, List.setIfInBounds_toArray, List.set_cons_zero, List.set_cons_succ]
  refine AnyTill.take (i := 1) (v := ?_) (op_at rfl) (by kernel_rfl) (by kernel_rfl) (by kernel_rfl) (by kernel_rfl) (fun _ _ _ h => h) (Or.inl ⟨by rfl, ?_⟩) (by assumption) ?_
  rotate_left
  · (intro w hSw; (try dsimp only at hSw); go_simp; try with_reducible rfl)
  try simp only [Act.put, List.setIfInBounds_toArray, List.set_cons_zero, List.set_cons_succ]
  refine AnyTill.take (i := 2) (v := ?_) (op_at rfl) (by kernel_rfl) (by kernel_rfl) (by kernel_rfl) (by kernel_rfl) (fun _ _ _ h => h) (Or.inl ⟨by rfl, ?_⟩) (by assumption) ?_
  rotate_left
  · (intro w hSw; (try dsimp only at hSw); go_simp; try with_reducible rfl)
  try simp only [Act.put, List.setIfInBounds_toArray, List.set_cons_zero, List.set_cons_succ]
  refine AnyTill.take (i := 3) (v := ?_) (op_at rfl) (by kernel_rfl) (by kernel_rfl) (by kernel_rfl) (by kernel_rfl) (fun _ _ _ h => h) (Or.inl ⟨by rfl, ?_⟩) (by assumption) ?_
  rotate_left
  · (intro w hSw; (try dsimp only at hSw); go_simp; try with_reducible rfl)
  try simp only [Act.put, List.setIfInBounds_toArray, List.set_cons_zero, List.set_cons_succ]
  refine AnyTill.take (i := 4) (v := ?_) (op_at rfl) (by kernel_rfl) (by kernel_rfl) (by kernel_rfl) (by kernel_rfl) (fun _ _ _ h => h) (Or.inl ⟨by rfl, ?_⟩) (by assumption) ?_
  rotate_left
  · (intro w hSw; (try dsimp only at hSw); go_simp; try with_reducible rfl)
  try simp only [Act.put, List.setIfInBounds_toArray, List.set_cons_zero, List.set_cons_succ]
  refine AnyTill.take (i := 5) (v := ?_) (op_at rfl) (by kernel_rfl) (by kernel_rfl) (by kernel_rfl) (by kernel_rfl) (fun _ _ _ h => h) (Or.inl ⟨by rfl, ?_⟩) (by assumption) ?_
  rotate_left
  · (intro w hSw; (try dsimp only at hSw); go_simp; try with_reducible rfl)
  try simp only [Act.put, List.setIfInBounds_toArray, List.set_cons_zero, List.set_cons_succ]
  refine AnyTill.take (i := 6) (v := ?_) (op_at rfl) (by kernel_rfl) (by kernel_rfl) (by kernel_rfl) (by kernel_rfl) (fun _ _ _ h => h) (Or.inl ⟨by rfl, ?_⟩) (by assumption) ?_
  rotate_left
  · (intro w hSw; (try dsimp only at hSw); go_simp; try with_reducible rfl)
  try simp only [Act.put, List.setIfInBounds_toArray, List.set_cons_zero, List.set_cons_succ]
  refine AnyTill.take (i := 7) (v := ?_) (op_at rfl) (by kernel_rfl) (by kernel_rfl) (by kernel_rfl) (by kernel_rfl) (fun _ _ _ h => h) (Or.inl ⟨by rfl, ?_⟩) (by assumption) ?_
  rotate_left
  · (intro w hSw; (try dsimp only at hSw); go_simp; try with_reducible rfl)
  try simp only [Act.put, List.setIfInBounds_toArray, List.set_cons_zero, List.set_cons_succ]
  refine AnyTill.take (i := 8) (v := ?_) (op_at rfl) (by kernel_rfl) (by kernel_rfl) (by kernel_rfl) (by kernel_rfl) (fun _ _ _ h => h) (Or.inl ⟨by rfl, ?_⟩) (by assumption) ?_
  rotate_left
  · (intro w hSw; (try dsimp only at hSw); go_simp; try with_reducible rfl)
  try simp only [Act.put, List.setIfInBounds_toArray, List.set_cons_zero, List.set_cons_succ]
  refine AnyTill.take (i := 9) (v := ?_) (op_at rfl) (by kernel_rfl) (by kernel_rfl) (by kernel_rfl) (by kernel_rfl) (fun _ _ _ h => h) (Or.inl ⟨by rfl, ?_⟩) (by assumption) ?_
  rotate_left
  · (intro w hSw; (try dsimp only at hSw); go_simp; try with_reducible rfl)
  try simp only [Act.put, List.setIfInBounds_toArray, List.set_cons_zero, List.set_cons_succ]
  refine AnyTill.take (i := 10) (v := ?_) (op_at rfl) (by kernel_rfl) (by kernel_rfl) (by kernel_rfl) (by kernel_rfl) (fun _ _ _ h => h) (Or.inl ⟨by rfl, ?_⟩) (by assumption) ?_
  rotate_left
  · (intro w hSw; (try dsimp only at hSw); go_simp; try with_reducible rfl)
  try simp only [Act.put, List.setIfInBounds_toArray, List.set_cons_zero, List.set_cons_succ]
  refine AnyTill.take (i := 11) (v := ?_) (op_at rfl) (by kernel_rfl) (by kernel_rfl) (by kernel_rfl) (by kernel_rfl) (fun _ _ _ h => h) (Or.inl ⟨by rfl, ?_⟩) (by assumption) ?_
  rotate_left
  · (intro w hSw; (try dsimp only at hSw); go_simp; try with_reducible rfl)
  try simp only [Act.put, List.setIfInBounds_toArray, List.set_cons_zero, List.set_cons_succ]
  refine AnyTill.take (i := 12) (v := ?_) (op_at rfl) (by kernel_rfl) (by kernel_rfl) (by kernel_rfl) (by kernel_rfl) (fun _ _ _ h => h) (Or.inl ⟨by rfl, ?_⟩) (by assumption) ?_
  rotate_left
  · (intro w hSw; (try dsimp only at hSw); go_simp; try with_reducible rfl)
  try simp only [Act.put, List.setIfInBounds_toArray, List.set_cons_zero, List.set_cons_succ]
  refine AnyTill.take (i := 13) (v := ?_) (op_at rfl) (by kernel_rfl) (by kernel_rfl) (by kernel_rfl) (by kernel_rfl) (fun _ _ _ h => h) (Or.inl ⟨by rfl, ?_⟩) (by assumption) ?_
  rotate_left
  · (intro w hSw; (try dsimp only at hSw); go_simp; try with_reducible rfl)
  try simp only [Act.put, List.setIfInBounds_toArray, List.set_cons_zero, List.set_cons_succ]
  refine AnyTill.take (i := 14) (v := ?_) (op_at rfl) (by kernel_rfl) (by kernel_rfl) (by kernel_rfl) (by kernel_rfl) (fun _ _ _ h => h) (Or.inl ⟨by rfl, ?_⟩) (by assumption) ?_
  rotate_left
  · (intro w hSw; (try dsimp only at hSw); go_simp; try with_reducible rfl)
  try simp only [Act.put, List.setIfInBounds_toArray, List.set_cons_zero, List.set_cons_succ]
  refine AnyTill.take (i := 15) (v := ?_) (op_at rfl) (by kernel_rfl) (by kernel_rfl) (by kernel_rfl) (by kernel_rfl) (fun _ _ _ h => h) (Or.inl ⟨by rfl, ?_⟩) (by assumption) ?_
  rotate_left
  · (intro w hSw; (try dsimp only at hSw); go_simp; try with_reducible rfl)
  try simp only [Act.put, List.setIfInBounds_toArray, List.set_cons_zero, List.set_cons_succ]
  refine AnyTill.take (i := 16) (v := ?_) (op_at rfl) (by kernel_rfl) (by kernel_rfl) (by kernel_rfl) (by kernel_rfl) (fun _ _ _ h => h) (Or.inl ⟨by rfl, ?_⟩) (by assumption) ?_
  rotate_left
  · (intro w hSw; (try dsimp only at hSw); go_simp; try with_reducible rfl)
  try simp only [Act.put, List.setIfInBounds_toArray, List.set_cons_zero, List.set_cons_succ]
  refine AnyTill.take (i := 17) (v := ?_) (op_at rfl) (by kernel_rfl) (by kernel_rfl) (by kernel_rfl) (by kernel_rfl) (fun _ _ _ h => h) (Or.inl ⟨by rfl, ?_⟩) (by assumption) ?_
  rotate_left
  · (intro w hSw; (try dsimp only at hSw); go_simp; try with_reducible rfl)
  try simp only [Act.put, List.setIfInBounds_toArray, List.set_cons_zero, List.set_cons_succ]
  refine AnyTill.take (i := 18) (v := ?_) (op_at rfl) (by kernel_rfl) (by kernel_rfl) (by kernel_rfl) (by kernel_rfl) (fun _ _ _ h => h) (Or.inl ⟨by rfl, ?_⟩) (by assumption) ?_
  rotate_left
  · (intro w hSw; (try dsimp only at hSw); go_simp; try with_reducible rfl)
  try simp only [Act.put, List.setIfInBounds_toArray, List.set_cons_zero, List.set_cons_succ]
  refine AnyTill.take (i := 19) (v := ?_) (op_at rfl) (by kernel_rfl) (by kernel_rfl) (by kernel_rfl) (by kernel_rfl) (fun _ _ _ h => h) (Or.inl ⟨by rfl, ?_⟩) (by assumption) ?_
  rotate_left
  · (intro w hSw; (try dsimp only at hSw); go_simp; try with_reducible rfl)
  try simp only [Act.put, List.setIfInBounds_toArray, List.set_cons_zero, List.set_cons_succ]
  refine AnyTill.take (i := 20) (v := ?_) (op_at rfl) (by kernel_rfl) (by kernel_rfl) (by kernel_rfl) (by kernel_rfl) (fun _ _ _ h => h) (Or.inl ⟨by rfl, ?_⟩) (by assumption) ?_
  rotate_left
  · (intro w hSw; (try dsimp only at hSw); go_simp; try with_reducible rfl)
  try simp only [Act.put, List.setIfInBounds_toArray, List.set_cons_zero, List.set_cons_succ]
  refine AnyTill.take (i := 21) (v := ?_) (op_at rfl) (by kernel_rfl) (by kernel_rfl) (by kernel_rfl) (by kernel_rfl) (fun _ _ _ h => h) (Or.inl ⟨by rfl, ?_⟩) (by assumption) ?_
  rotate_left
  · (intro w hSw; (try dsimp only at hSw); go_simp; try with_reducible rfl)
  try simp only [Act.put, List.setIfInBounds_toArray, List.set_cons_zero, List.set_cons_succ]
  refine AnyTill.take (i := 22) (v := ?_) (op_at rfl) (by kernel_rfl) (by kernel_rfl) (by kernel_rfl) (by kernel_rfl) (fun _ _ _ h => h) (Or.inl ⟨by rfl, ?_⟩) (by assumption) ?_
  rotate_left
  · (intro w hSw; (try dsimp only at hSw); go_simp; try with_reducible rfl)
  try simp only [Act.put, List.setIfInBounds_toArray, List.set_cons_zero, List.set_cons_succ]
  refine AnyTill.take (i := 23) (v := ?_) (op_at rfl) (by kernel_rfl) (by kernel_rfl) (by kernel_rfl) (by kernel_rfl) (fun _ _ _ h => h) (Or.inl ⟨by rfl, ?_⟩) (by assumption) ?_
  rotate_left
  · (intro w hSw; (try dsimp only at hSw); go_simp; try with_reducible rfl)
  try simp only [Act.put, List.setIfInBounds_toArray, List.set_cons_zero, List.set_cons_succ]
  refine AnyTill.take (i := 24) (v := ?_) (op_at rfl) (by kernel_rfl) (by kernel_rfl) (by kernel_rfl) (by kernel_rfl) (fun _ _ _ h => h) (Or.inl ⟨by rfl, ?_⟩) (by assumption) ?_
  rotate_left
  · (intro w hSw; (try dsimp only at hSw); go_simp; try with_reducible rfl)
  try simp only [Act.put, List.setIfInBounds_toArray, List.set_cons_zero, List.set_cons_succ]
  clear e1 e2 e3 e4 e5
  refine AnyTill.next (i := 25) (by kernel_rfl) (op_at rfl) (by decide) (fun K hK => ?_)
  go_simp
  obtain ⟨W5, hW5⟩ : ∃ V, V = (W3.alloc (.cells #[.int .i64 8, .string (s.extract a (a + 1)), .int .i64 0, .int .i64 a] 96)).drew := ⟨_, rfl⟩
  have B5 := Lib.hid (show Below W3.heap.size W3 W5 from hW5 ▸ bdrew (nbelow1 _ _))
  have hz5 : W5.heap.size = W3.heap.size + 1 := by rw [hW5]; show (W3.alloc _).heap.size = _; simp
  have N5 := Lib.hid (show ∀ j u, (tkCells (⟨8, (s.extract a (a + 1)).data.toList, 0, a⟩ : Tk))[j]? = some u → W5.cell? ((⟨W3.heap.size, 0, none⟩ : Addr).add j) = some u from hW5 ▸ cells4_new W3 _ _ _ _ _)
  have O5 := Lib.hid (show W5.ownsRow (X + 1) 96 4 (.slice ao ts.length cp) ts.length (tksCells ts) from own_below HOW0.out B5.out)
  rw [← hW5]
  clear hW5
  refine hK.out _ _ ?_ (fun hHeld => ?_)
  · exact HSB.out W5 (fun b hb _ => B5.out.block b hb)
  clear hK K
  try simp only [Act.put, List.setIfInBounds_toArray, List.set_cons_zero, List.set_cons_succ]
  refine AnyTill.next (i := 26) (by kernel_rfl) (op_at rfl) (by decide) (fun K hK => ?_)
  refine step_append_lies _ rfl _ _ 87 rfl (X + 1) 96 i0 (.agg #[.int .i64 0, .string ⟨#[]⟩, .int .i64 0, .int .i64 0]) 4 40 Tryz.underlying87 HI0.out.1 HI0.out.2.1 HI0.out.2.2.1 HI0.out.2.2.2 rfl (by decide) _ _ _ rfl O5.out ⟨W3.heap.size, 0, none⟩ 1 1 (tkCells (⟨8, (s.extract a (a + 1)).data.toList, 0, a⟩ : Tk)) rfl rfl N5.out (tk_one _) (by decide) (by unfold maxLen; omega) (by omega) (by omega) _ rfl ?_
  intro gb cap' w6 hown' hgrow' hat' hltg
  have HG6 := Lib.hid hgrow'
  have HO6 := Lib.hid hown'
  have HX6 := Lib.hid (show w6.heap[X]? = some (.cells #[.string s, .int .i64 a, .map (some M), .slice ao ts.length cp, .pointer none] 129 (0, 0)) from (hgrow'.block X (by omega) (fun e => by have := (HOW0.out.lt X e.symm).1; omega)).trans ((B5.out.block X hXW).trans HAT0.out))
  clear hown' hgrow' hat' hltg
  refine hK.out _ _ ?_ (fun hHeld => ?_)
  · exact HSB.out w6 (fun b hb hne => (HG6.out.block b (by omega) (fun e => hne e.symm)).trans (B5.out.block b hb))
  clear hK K
  try simp only [Act.put, List.setIfInBounds_toArray, List.set_cons_zero, List.set_cons_succ]
  refine AnyTill.next (i := 27) (by kernel_rfl) (op_at rfl) (by decide) (fun K hK => ?_)
  go_simp
  refine hK.out _ _ ?_ (fun hHeld => ?_)
  · exact hHeld
  clear hK K
  try simp only [Act.put, List.setIfInBounds_toArray, List.set_cons_zero, List.set_cons_succ]
  refine AnyTill.next (i := 28) (by kernel_rfl) (op_at rfl) (by decide) (fun K hK => ?_)
  go_simp
  refine hK.out _ _ ?_ (fun hHeld => ?_)
  · exact hHeld
  clear hK K
  try simp only [Act.put, List.setIfInBounds_toArray, List.set_cons_zero, List.set_cons_succ]
  have hX3 : w6.cell? ⟨X, 3, none⟩ = some (.slice ao ts.length cp) := by simp [World.cell?, HX6.out]
  have hf6 : w6.frozen? ⟨X, 3, none⟩ = false := by simp [World.frozen?, HX6.out]
  have hX6l : X < w6.heap.size := (Array.getElem?_eq_some_iff.1 HX6.out).1
  refine AnyTill.last (z := 29) (by kernel_rfl) (op_at rfl) (by kernel_rfl) (fun K hK => ?_)
  go_simp
  refine hK.out _ _ ?_
  clear hK K hHeld
  obtain ⟨W7, hW7⟩ : ∃ V, V = w6.setCell ⟨X, 3, none⟩ (.slice (some ⟨gb, 0, none⟩) (ts.length + 1) cap') := ⟨_, rfl⟩
  have Z7 := Lib.hid (show SC X M s a (ts ++ [(⟨8, (s.extract a (a + 1)).data.toList, 0, a⟩ : Tk)]) W7 ∧ Below X W3 W7 from hW7 ▸ sc_append hMX hXW HOW0.out HKY0.out B5.out HX6.out HO6.out HG6.out)
  have HS7 := Lib.hid Z7.out.1
  have BX7 := Lib.hid Z7.out.2
  rw [← hW7]
  clear hW7 hX3 hf6 hX6l HX6 HO6 HG6 O5 N5 B5 HSB HSI HAT0 HOW0 HKY0 Z7
  have BX := Lib.hid (BX3.out.trans BX7.out)
  go_wp2_with fail
  go_ret2
  exact tokQ_ok R.out BX.out rfl (by rw [T.out]) HS7.out
end Go.Proofs.YtcndknkdhlmdnaaGreatDoor
