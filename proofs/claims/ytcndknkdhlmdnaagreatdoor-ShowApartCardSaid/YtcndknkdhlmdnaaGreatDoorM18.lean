/-
  Texts that the statements' proofs rest on, one behind another: RefQ, RefU7, RefScan.
-/
import Derived.Test.YtcndknkdhlmdnaaGreatDoorM17
import Derived.Test.YtcndknkdhlmdnaaGreatDoorM11
import Derived.Test.YtcndknkdhlmdnaaGreatDoorM15

/-
  usanceref07's scanner: strings; the token at a place.
-/
namespace Go.Proofs.YtcndknkdhlmdnaaGreatDoor
open Go.RowKit
set_option maxRecDepth 100000

theorem quoC_eq (c : UInt8) : quoC c = ((c.toNat : Int) != 34 && (c.toNat : Int) != 10) := by
  unfold quoC bne
  rw [show ((c.toNat : Int) == 34) = (c == 34) from u8_eq c 34 (by decide), show ((c.toNat : Int) == 10) = (c == 10) from u8_eq c 10 (by decide)]
theorem quoR_of {s : ByteArray} {a n : Nat} (h1 : 1 ≤ n) (hk : a + n ≤ s.size) (h : ∀ j (hj : a + j < s.size), 1 ≤ j → j < n → quoC s[a + j] = true) (h' : ∀ (hk : a + n < s.size), quoC s[a + n] = false) : quoR (s.data.toList.drop (a + 1)) = n - 1 := by
  have hl : (s.data.toList.drop (a + 1)).length = s.size - (a + 1) := by rw [List.length_drop, size_list]
  refine takeWhile_len quoC _ _ (by rw [hl]; omega) (fun j hj hjk => ?_) fun hj => ?_
  · rw [List.getElem_drop]
    have := h (1 + j) (by rw [hl] at hj; omega) (by omega) (by omega)
    simp only [show a + (1 + j) = a + 1 + j by omega] at this
    exact this
  · rw [List.getElem_drop]
    have := h' (by rw [hl] at hj; omega)
    simp only [show a + n = a + 1 + (n - 1) by omega] at this
    exact this

set_option maxHeartbeats 2000000 in
theorem rquoted_any (s : ByteArray) (a : Nat) (w : World) (hs : s.size ≤ 16384) (ha : a < s.size) :
    Calls Tryz.prog 91 #[.string s, .int .i64 a] w (TokP (quotS (s.data.toList.drop (a + 1)) a) w) := by
  have Q := Lib.hid (show quotS (s.data.toList.drop (a + 1)) a = if ((s.data.toList.drop (a + 1)).drop (quoR (s.data.toList.drop (a + 1)))).headD 0 ≠ 34 then .error 71
    else if nameL ((s.data.toList.drop (a + 1)).take (quoR (s.data.toList.drop (a + 1)))) = true then .ok (⟨7, (s.data.toList.drop (a + 1)).take (quoR (s.data.toList.drop (a + 1))), 0, a⟩, quoR (s.data.toList.drop (a + 1)) + 2) else .error 73 from rfl)
  obtain ⟨W, hW⟩ : ∃ W, W = w.alloc (.cells #[.int .i64 0, .string ⟨#[]⟩, .int .i64 0, .int .i64 0] 39) := ⟨_, rfl⟩
  have HB := Lib.hid (show Below w.heap.size w W from hW ▸ nbelow1 _ _)
  have Z0 := Lib.hid (show Zero w.heap.size W from hW ▸ Zero.make w)
  go_enter Tryz.func91, Tryz.ntmps91
  go_wp2_with fail
  rw [← hW]
  clear hW
  obtain ⟨c0, c1, c2, c3, f0, f1, f2, f3⟩ := Z0.out.cells
  go_loop [7] (fun n => ∃ k : Nat, 1 ≤ k ∧ a + k ≤ s.size ∧ n = .int .i64 k ∧ Hid (∀ j (hj : a + j < s.size), 1 ≤ j → j < k → quoC s[a + j] = true)) (fun n => s.size - (intOf n).toNat)
  case atStart => exact ⟨1, by omega, by omega, rfl, fun j hj h h' => by omega⟩
  case round =>
    obtain ⟨k, hk1, hk, rfl, HAll⟩ := hrel
    by_cases hlt : a + k < s.size
    case neg =>
      have HR := Lib.hid (quoR_of hk1 hk HAll.out (fun h => absurd h hlt))
      have R := Lib.hid (show quotS (s.data.toList.drop (a + 1)) a = .error 71 by
        rw [Q.out, HR.out, if_pos]
        rw [List.drop_drop, head_end (by omega)]; decide)
      have e1 : (((a : Int) + k) == s.size) = true := by rw [beq_iff_eq]; omega
      clear HAll
      go_wp2_with fail
      exact bodyPost_ret (v := .tuple #[.agg #[.int .i64 0, .string ⟨#[]⟩, .int .i64 0, .int .i64 0], .int .i64 0, .int .i64 71]) (by simp [results, Tryz.results91, go_sem, c0, c1, c2, c3]) rfl (tokP_err R.out (by decide) (below4 HB.out _ _ _ _))
    have e1 : (((a : Int) + k) == s.size) = false := by rw [beq_eq_false_iff_ne]; omega
    have HQ := Lib.hid (quoC_eq s[a + k])
    have hcase : ((s[a + k].toNat : Int) = 34) ∨ ((s[a + k].toNat : Int) = 10) ∨ (¬ (s[a + k].toNat : Int) = 34 ∧ ¬ (s[a + k].toNat : Int) = 10) := by omega
    rcases hcase with h34 | h10 | ⟨h34, h10⟩
    · have q1 : ((s[a + k].toNat : Int) != 34) = false := by rw [h34]; rfl
      have q2 : ((s[a + k].toNat : Int) == 10) = false := by rw [h34]; rfl
      have HR := Lib.hid (quoR_of hk1 hk HAll.out (fun h => by rw [HQ.out, q1]; rfl))
      have T := Lib.hid (show (s.extract (a + 1) (a + k)).data.toList = (s.data.toList.drop (a + 1)).take (k - 1) by rw [ext_list]; congr 1; omega)
      have hte := ext_size s (a + 1) (a + k) (by omega)
      have CN := Lib.hid (rIsName_any (s.extract (a + 1) (a + k)) W (by unfold maxLen; omega))
      rw [T.out, nameR_eq] at CN
      have H34 := Lib.hid (show ((s.data.toList.drop (a + 1)).drop (k - 1)).headD 0 = 34 by
        rw [List.drop_drop, show a + 1 + (k - 1) = a + k by omega, head_drop hlt]; exact UInt8.toNat_inj.1 (Int.ofNat.inj h34))
      clear HAll h34 hte
      go_wp2_with fail
      (with_reducible refine Calls.mono CN.out ?_)
      rintro e w1 ⟨rfl, rfl⟩
      cases hnm : nameL ((s.data.toList.drop (a + 1)).take (k - 1))
      · have R := Lib.hid (show quotS (s.data.toList.drop (a + 1)) a = .error 73 by
          rw [Q.out, HR.out, if_neg (by rw [H34.out]; decide), if_neg (by rw [hnm]; decide)])
        go_wp2_with fail
        exact bodyPost_ret (v := .tuple #[.agg #[.int .i64 0, .string ⟨#[]⟩, .int .i64 0, .int .i64 0], .int .i64 0, .int .i64 73]) (by simp [results, Tryz.results91, go_sem, c0, c1, c2, c3]) rfl (tokP_err R.out (by decide) (below4 HB.out _ _ _ _))
      · have R := Lib.hid (show quotS (s.data.toList.drop (a + 1)) a = .ok (⟨7, (s.data.toList.drop (a + 1)).take (k - 1), 0, a⟩, k - 1 + 2) by
          rw [Q.out, HR.out, if_neg (by rw [H34.out]; decide), if_pos hnm])
        go_wp2_with fail
        exact bodyPost_ret (v := .tuple #[.agg #[.int .i64 7, .string (s.extract (a + 1) (a + k)), .int .i64 0, .int .i64 a], .int .i64 ((k : Int) + 1), .int .i64 0]) (by simp [results, Tryz.results91, go_sem, c0, c1, c2, c3]) rfl (tokP_ok R.out (below4 HB.out _ _ _ _) rfl T.out rfl rfl (by omega))
    · have q1 : ((s[a + k].toNat : Int) != 34) = true := by rw [h10]; rfl
      have q2 : ((s[a + k].toNat : Int) != 10) = false := by rw [h10]; rfl
      have q3 : ((s[a + k].toNat : Int) == 10) = true := by rw [h10]; rfl
      have HR := Lib.hid (quoR_of hk1 hk HAll.out (fun h => by rw [HQ.out, q2]; simp))
      have R := Lib.hid (show quotS (s.data.toList.drop (a + 1)) a = .error 71 by
        rw [Q.out, HR.out, if_pos]
        rw [List.drop_drop, show a + 1 + (k - 1) = a + k by omega, head_drop hlt]
        intro e
        rw [e] at h10; exact absurd h10 (by decide))
      clear HAll h10
      go_wp2_with fail
      exact bodyPost_ret (v := .tuple #[.agg #[.int .i64 0, .string ⟨#[]⟩, .int .i64 0, .int .i64 0], .int .i64 0, .int .i64 71]) (by simp [results, Tryz.results91, go_sem, c0, c1, c2, c3]) rfl (tokP_err R.out (by decide) (below4 HB.out _ _ _ _))
    · have q1 : ((s[a + k].toNat : Int) != 34) = true := by rw [bne_iff_ne]; exact h34
      have q2 : ((s[a + k].toNat : Int) != 10) = true := by rw [bne_iff_ne]; exact h10
      have HK := Lib.hid (show quoC s[a + k] = true by rw [HQ.out, q1, q2]; rfl)
      clear h34 h10
      go_wp2_with fail
      go_round
      case rel =>
        refine ⟨k + 1, by omega, by omega, by go_num, fun j hj h h' => ?_⟩
        by_cases e : j = k
        · subst e; exact HK.out
        · exact HAll.out j hj h (by omega)
      case measure => simp [intOf]; omega

end Go.Proofs.YtcndknkdhlmdnaaGreatDoor

/-
  usanceref07's scanner: the token at a place.
-/
namespace Go.Proofs.YtcndknkdhlmdnaaGreatDoor
open Go.RowKit
set_option maxRecDepth 100000

theorem greR_of {s : ByteArray} {a n : Nat} (hk : a + n ≤ s.size) (h : ∀ j (hj : a + j < s.size), j < n → grC s[a + j] = true) (h' : ∀ (hk : a + n < s.size), grC s[a + n] = false) : greR (s.data.toList.drop a) = n := by
  have hl : (s.data.toList.drop a).length = s.size - a := by rw [List.length_drop, size_list]
  exact takeWhile_len grC _ _ (by rw [hl]; omega) (fun j hj hjk => by rw [List.getElem_drop]; exact h j (by rw [hl] at hj; omega) hjk) fun hj => by rw [List.getElem_drop]; exact h' (by rw [hl] at hj; omega)
def markF : ByteArray := ⟨#[40, 41, 44, 59, 61, 60, 43, 45, 42, 47]⟩
theorem markF_ext : ∀ (k : Nat) (h : k < 10), (markF.extract k (k + 1)).data.toList = [markF[k]'h] := by decide
theorem mark_no {c : UInt8} (h : ∀ j (hj : j < 10), (markF[j]'hj) ≠ c) : markTab.contains c = false := by
  rw [Bool.eq_false_iff]
  intro e
  obtain ⟨i, hi, he⟩ := List.getElem_of_mem (List.contains_iff_mem.1 e)
  exact h i hi he
theorem mark_yes {c : UInt8} {k : Nat} (h : k < 10) (e : (markF[k]'h) = c) : markTab.contains c = true := by
  rw [List.contains_iff_mem, ← e]
  exact List.getElem_mem (l := markTab) (n := k) h
theorem tok_eq (c : UInt8) (r : List UInt8) (pos : Int) : tokS c r pos = if smI c.toNat = true then namedS (c :: r) pos else if dgI c.toNat = true then numS (c :: r) pos else if (c.toNat : Int) = 34 then quotS r pos else if grI c.toNat = true then curS (c :: r) pos else markS c r pos := by
  unfold tokS
  rw [dgC_I]
  have e : (c = 34) = ((c.toNat : Int) = 34) := propext ((u8_int (c := c) (n := 34) (by decide)).symm)
  simp only [e]
  rfl
theorem mark_eq (c : UInt8) (r : List UInt8) (pos : Int) : markS c r pos = if (c.toNat : Int) = 60 ∧ ((r.headD 0).toNat : Int) = 61 then .ok (⟨8, [60, 61], 0, pos⟩, 2) else if markTab.contains c = true then .ok (⟨8, [c], 0, pos⟩, 1) else .error 71 := by
  unfold markS
  have e : (c = 60) = ((c.toNat : Int) = 60) := propext ((u8_int (c := c) (n := 60) (by decide)).symm)
  have e' : (r.headD 0 = 61) = (((r.headD 0).toNat : Int) = 61) := propext ((u8_int (c := r.headD 0) (n := 61) (by decide)).symm)
  simp only [e, e']

set_option maxHeartbeats 4000000 in
theorem rtoken_any (s : ByteArray) (a : Nat) (w : World) (hs : s.size ≤ 16384) (ha : a < s.size) :
    Calls Tryz.prog 56 #[.string s, .int .i64 a] w (TokP (tokS s[a] (s.data.toList.drop (a + 1)) a) w) := by
  have D := Lib.hid (drop_at ha)
  have K := Lib.hid (tok_eq s[a] (s.data.toList.drop (a + 1)) a)
  rw [← D.out] at K
  obtain ⟨W, hW⟩ : ∃ W, W = w.alloc (.cells #[.int .i64 0, .string ⟨#[]⟩, .int .i64 0, .int .i64 0] 39) := ⟨_, rfl⟩
  have HB := Lib.hid (show Below w.heap.size w W from hW ▸ nbelow1 _ _)
  have Z0 := Lib.hid (show Zero w.heap.size W from hW ▸ Zero.make w)
  cases h1 : smI s[a].toNat
  case true =>
    have R0 := Lib.hid (show tokS s[a] (s.data.toList.drop (a + 1)) a = namedS (s.data.toList.drop a) a by rw [K.out, if_pos h1])
    have C := Lib.hid (rnamed_any s a W hs ha)
    go_enter Tryz.func56, Tryz.ntmps56
    go_wp2_with fail
    rw [← hW]
    clear hW
    go_wp2_with (first | (go_at_call 87; refine (rsmall_any _ _).mono ?_; rintro e w' ⟨rfl, rfl⟩; rw [h1]))
    (with_reducible refine Calls.mono C.out ?_)
    rintro e w1 ⟨hb, hr⟩
    have HC := Lib.hid (HB.out.trans (hb.mono HB.out.size))
    obtain ⟨c0, c1, c2, c3, f0, f1, f2, f3⟩ := (Z0.out.below hb).cells
    cases hx : namedS (s.data.toList.drop a) a with
    | error c =>
      rw [hx] at hr R0
      obtain ⟨hc, k', s', x', p', rfl⟩ := hr
      have HC0 := Lib.hid hc
      clear hb hc hx
      go_wp2_with fail
      exact bodyPost_ret (v := .tuple #[.agg #[.int .i64 k', .string s', .int .i64 x', .int .i64 p'], .int .i64 0, .int .i64 c]) (by simp [results, Tryz.results56, go_sem, c0, c1, c2, c3]) rfl (tokP_err R0.out HC0.out (below4 HC.out _ _ _ _))
    | ok q =>
      obtain ⟨t, n⟩ := q
      rw [hx] at hr R0
      replace hr : e = .returned (.tuple #[.agg #[.int .i64 t.kind, .string ⟨t.text.toArray⟩, .int .i64 t.n, .int .i64 t.pos], .int .i64 n, .int .i64 0]) := hr
      subst hr
      clear hb hx
      go_wp2_with fail
      exact bodyPost_ret (v := .tuple #[.agg #[.int .i64 t.kind, .string ⟨t.text.toArray⟩, .int .i64 t.n, .int .i64 t.pos], .int .i64 n, .int .i64 0]) (by simp [results, Tryz.results56, go_sem, c0, c1, c2, c3]) rfl (tokP_ok R0.out (below4 HC.out _ _ _ _) rfl rfl rfl rfl rfl)
  have n1 := Lib.hid (show ¬ smI s[a].toNat = true by rw [h1]; decide)
  cases h2 : dgI s[a].toNat
  case true =>
    have R0 := Lib.hid (show tokS s[a] (s.data.toList.drop (a + 1)) a = numS (s.data.toList.drop a) a by rw [K.out, if_neg n1.out, if_pos h2])
    have C := Lib.hid (rnumber_any s a W hs ha (by rw [dgC_I]; exact h2))
    go_enter Tryz.func56, Tryz.ntmps56
    go_wp2_with fail
    rw [← hW]
    clear hW
    go_wp2_with (first | (go_at_call 87; refine (rsmall_any _ _).mono ?_; rintro e w' ⟨rfl, rfl⟩; rw [h1]) | (go_at_call 89; refine (rdigit_any _ _).mono ?_; rintro e w' ⟨rfl, rfl⟩; rw [h2]))
    (with_reducible refine Calls.mono C.out ?_)
    rintro e w1 ⟨hb, hr⟩
    have HC := Lib.hid (HB.out.trans (hb.mono HB.out.size))
    obtain ⟨c0, c1, c2, c3, f0, f1, f2, f3⟩ := (Z0.out.below hb).cells
    cases hx : numS (s.data.toList.drop a) a with
    | error c =>
      rw [hx] at hr R0
      obtain ⟨hc, k', s', x', p', rfl⟩ := hr
      have HC0 := Lib.hid hc
      clear hb hc hx
      go_wp2_with fail
      exact bodyPost_ret (v := .tuple #[.agg #[.int .i64 k', .string s', .int .i64 x', .int .i64 p'], .int .i64 0, .int .i64 c]) (by simp [results, Tryz.results56, go_sem, c0, c1, c2, c3]) rfl (tokP_err R0.out HC0.out (below4 HC.out _ _ _ _))
    | ok q =>
      obtain ⟨t, n⟩ := q
      rw [hx] at hr R0
      replace hr : e = .returned (.tuple #[.agg #[.int .i64 t.kind, .string ⟨t.text.toArray⟩, .int .i64 t.n, .int .i64 t.pos], .int .i64 n, .int .i64 0]) := hr
      subst hr
      clear hb hx
      go_wp2_with fail
      exact bodyPost_ret (v := .tuple #[.agg #[.int .i64 t.kind, .string ⟨t.text.toArray⟩, .int .i64 t.n, .int .i64 t.pos], .int .i64 n, .int .i64 0]) (by simp [results, Tryz.results56, go_sem, c0, c1, c2, c3]) rfl (tokP_ok R0.out (below4 HC.out _ _ _ _) rfl rfl rfl rfl rfl)
  have n2 := Lib.hid (show ¬ dgI s[a].toNat = true by rw [h2]; decide)
  cases h3 : ((s[a].toNat : Int) == 34)
  case true =>
    have h3' := Lib.hid (beq_iff_eq.1 h3)
    have R0 := Lib.hid (show tokS s[a] (s.data.toList.drop (a + 1)) a = quotS (s.data.toList.drop (a + 1)) a by rw [K.out, if_neg n1.out, if_neg n2.out, if_pos h3'.out])
    have C := Lib.hid (rquoted_any s a W hs ha)
    go_enter Tryz.func56, Tryz.ntmps56
    go_wp2_with fail
    rw [← hW]
    clear hW
    go_wp2_with (first | (go_at_call 87; refine (rsmall_any _ _).mono ?_; rintro e w' ⟨rfl, rfl⟩; rw [h1]) | (go_at_call 89; refine (rdigit_any _ _).mono ?_; rintro e w' ⟨rfl, rfl⟩; rw [h2]))
    (with_reducible refine Calls.mono C.out ?_)
    rintro e w1 ⟨hb, hr⟩
    have HC := Lib.hid (HB.out.trans (hb.mono HB.out.size))
    obtain ⟨c0, c1, c2, c3, f0, f1, f2, f3⟩ := (Z0.out.below hb).cells
    cases hx : quotS (s.data.toList.drop (a + 1)) a with
    | error c =>
      rw [hx] at hr R0
      obtain ⟨hc, k', s', x', p', rfl⟩ := hr
      have HC0 := Lib.hid hc
      clear hb hc hx
      go_wp2_with fail
      exact bodyPost_ret (v := .tuple #[.agg #[.int .i64 k', .string s', .int .i64 x', .int .i64 p'], .int .i64 0, .int .i64 c]) (by simp [results, Tryz.results56, go_sem, c0, c1, c2, c3]) rfl (tokP_err R0.out HC0.out (below4 HC.out _ _ _ _))
    | ok q =>
      obtain ⟨t, n⟩ := q
      rw [hx] at hr R0
      replace hr : e = .returned (.tuple #[.agg #[.int .i64 t.kind, .string ⟨t.text.toArray⟩, .int .i64 t.n, .int .i64 t.pos], .int .i64 n, .int .i64 0]) := hr
      subst hr
      clear hb hx
      go_wp2_with fail
      exact bodyPost_ret (v := .tuple #[.agg #[.int .i64 t.kind, .string ⟨t.text.toArray⟩, .int .i64 t.n, .int .i64 t.pos], .int .i64 n, .int .i64 0]) (by simp [results, Tryz.results56, go_sem, c0, c1, c2, c3]) rfl (tokP_ok R0.out (below4 HC.out _ _ _ _) rfl rfl rfl rfl rfl)
  have n3 := Lib.hid (show ¬ (s[a].toNat : Int) = 34 from beq_eq_false_iff_ne.1 h3)
  cases h4 : grI s[a].toNat
  case true =>
    have R0 := Lib.hid (show tokS s[a] (s.data.toList.drop (a + 1)) a = if greR (s.data.toList.drop a) = 3 then .ok (⟨4, (s.data.toList.drop a).take 3, 0, a⟩, 3) else .error 73 by rw [K.out, if_neg n1.out, if_neg n2.out, if_neg n3.out, if_pos h4]; rfl)
    have H4 := Lib.hid (show grC s[a] = true from h4)
    obtain ⟨c0, c1, c2, c3, f0, f1, f2, f3⟩ := Z0.out.cells
    go_enter Tryz.func56, Tryz.ntmps56
    go_wp2_with fail
    rw [← hW]
    clear hW
    go_wp2_with (first | (go_at_call 87; refine (rsmall_any _ _).mono ?_; rintro e w' ⟨rfl, rfl⟩; rw [h1]) | (go_at_call 89; refine (rdigit_any _ _).mono ?_; rintro e w' ⟨rfl, rfl⟩; rw [h2]) | (go_at_call 92; refine (rgreat_any _ _).mono ?_; rintro e w' ⟨rfl, rfl⟩; rw [h4]))
    clear h1 h2 h3
    go_loop [8] (fun n => ∃ k : Nat, 1 ≤ k ∧ a + k ≤ s.size ∧ n = .int .i64 k ∧ Hid (∀ j (hj : a + j < s.size), j < k → grC s[a + j] = true)) (fun n => s.size - (intOf n).toNat)
    case atStart => exact ⟨1, by omega, by omega, rfl, fun j hj h => by obtain rfl : j = 0 := (by omega); exact H4.out⟩
    case round =>
      obtain ⟨k, hk1, hk, rfl, HAll⟩ := hrel
      have hgo : (∃ hlt : a + k < s.size, grC s[a + k] = true) ∨ (∃ hlt : a + k < s.size, grC s[a + k] = false) ∨ ¬ a + k < s.size := by
        by_cases h : a + k < s.size
        · cases h' : grC s[a + k]
          · exact .inr (.inl ⟨h, h'⟩)
          · exact .inl ⟨h, h'⟩
        · exact .inr (.inr h)
      rcases hgo with ⟨hlt, hg⟩ | ⟨hlt, hg⟩ | hlt
      · have h5 : grI s[a + k].toNat = true := hg
        have HG := Lib.hid hg
        clear hg h4
        go_wp2_with (first | (go_at_call 92; refine (rgreat_any _ _).mono ?_; rintro e w' ⟨rfl, rfl⟩; rw [h5]))
        go_round
        case rel =>
          refine ⟨k + 1, by omega, by omega, by go_num, fun j hj h => ?_⟩
          by_cases e : j = k
          · subst e; exact HG.out
          · exact HAll.out j hj (by omega)
        case measure => simp [intOf]; omega
      case' inr.inl =>
        have h5 : grI s[a + k].toNat = false := hg
        have HR := Lib.hid (greR_of hk HAll.out (fun _ => hg))
        clear hg
      case' inr.inr =>
        have h5 : True := trivial
        have HR := Lib.hid (greR_of hk HAll.out (fun h => absurd h hlt))
      all_goals
        by_cases hk3 : (k : Int) = 3
        · have hk' : k = 3 := by omega
          have e3 : ((k : Int) != 3) = false := by rw [hk3]; rfl
          have R := Lib.hid (R0.out.trans (if_pos (by rw [HR.out]; exact hk')))
          have T := Lib.hid (show (s.extract a (a + k)).data.toList = (s.data.toList.drop a).take 3 by rw [ext_list, Nat.add_sub_cancel_left, hk'])
          have HK3 := Lib.hid hk3
          clear hk3 h4 hk'
          go_wp2_with (first | (go_at_call 92; refine (rgreat_any _ _).mono ?_; rintro e w' ⟨rfl, rfl⟩; rw [h5]))
          exact bodyPost_ret (v := .tuple #[.agg #[.int .i64 4, .string (s.extract a (a + k)), .int .i64 0, .int .i64 a], .int .i64 k, .int .i64 0]) (by simp [results, Tryz.results56, go_sem, c0, c1, c2, c3]) rfl (tokP_ok R.out (below4 HB.out _ _ _ _) rfl T.out rfl rfl HK3.out)
        · have R := Lib.hid (R0.out.trans (if_neg (by rw [HR.out]; omega)))
          have e3 : ((k : Int) != 3) = true := by rw [bne_iff_ne]; exact hk3
          clear hk3 h4
          go_wp2_with (first | (go_at_call 92; refine (rgreat_any _ _).mono ?_; rintro e w' ⟨rfl, rfl⟩; rw [h5]))
          exact bodyPost_ret (v := .tuple #[.agg #[.int .i64 0, .string ⟨#[]⟩, .int .i64 0, .int .i64 0], .int .i64 0, .int .i64 73]) (by simp [results, Tryz.results56, go_sem, c0, c1, c2, c3]) rfl (tokP_err R.out (by decide) (below4 HB.out _ _ _ _))
  have R0 := Lib.hid (show tokS s[a] (s.data.toList.drop (a + 1)) a = markS s[a] (s.data.toList.drop (a + 1)) a by rw [K.out, if_neg n1.out, if_neg n2.out, if_neg n3.out, if_neg (by rw [h4]; decide)])
  rw [mark_eq] at R0
  obtain ⟨c0, c1, c2, c3, f0, f1, f2, f3⟩ := Z0.out.cells
  by_cases hle : (s[a].toNat : Int) = 60 ∧ ∃ h : a + 1 < s.size, (s[a + 1].toNat : Int) = 61
  · obtain ⟨h60, hlt, h61⟩ := hle
    have R := Lib.hid (R0.out.trans (if_pos ⟨h60, by rw [head_drop hlt]; exact h61⟩))
    have e60 : ((s[a].toNat : Int) == 60) = true := by rw [h60]; rfl
    have e61 : ((s[a + 1].toNat : Int) == 61) = true := by rw [h61]; rfl
    clear h60 h61
    go_enter Tryz.func56, Tryz.ntmps56
    go_wp2_with fail
    rw [← hW]
    clear hW
    go_wp2_with (first | (go_at_call 87; refine (rsmall_any _ _).mono ?_; rintro e w' ⟨rfl, rfl⟩; rw [h1]) | (go_at_call 89; refine (rdigit_any _ _).mono ?_; rintro e w' ⟨rfl, rfl⟩; rw [h2]) | (go_at_call 92; refine (rgreat_any _ _).mono ?_; rintro e w' ⟨rfl, rfl⟩; rw [h4]))
    exact bodyPost_ret (v := .tuple #[.agg #[.int .i64 8, .string ⟨#[60, 61]⟩, .int .i64 0, .int .i64 a], .int .i64 2, .int .i64 0]) (by simp [results, Tryz.results56, go_sem, c0, c1, c2, c3]) rfl (tokP_ok R.out (below4 HB.out _ _ _ _) rfl rfl rfl rfl rfl)
  have R1 := Lib.hid (R0.out.trans (if_neg fun h => hle ⟨h.1, by
    by_cases g : a + 1 < s.size
    · refine ⟨g, ?_⟩
      have := h.2
      rwa [head_drop g] at this
    · have := h.2
      rw [head_end (by omega)] at this
      exact absurd this (by decide)⟩))
  have hways : ((s[a].toNat : Int) == 60) = false ∨ (((s[a].toNat : Int) == 60) = true ∧ ¬ a + 1 < s.size) ∨ (((s[a].toNat : Int) == 60) = true ∧ ∃ h : a + 1 < s.size, ((s[a + 1].toNat : Int) == 61) = false) := by
    cases h : ((s[a].toNat : Int) == 60)
    · exact .inl rfl
    · by_cases g : a + 1 < s.size
      · exact .inr (.inr ⟨rfl, g, by rw [beq_eq_false_iff_ne]; exact fun e => hle ⟨beq_iff_eq.1 h, g, e⟩⟩)
      · exact .inr (.inl ⟨rfl, g⟩)
  clear hle
  go_enter Tryz.func56, Tryz.ntmps56
  go_wp2_with fail
  rw [← hW]
  clear hW
  rcases hways with e60 | ⟨e60, hg⟩ | ⟨e60, hg, e61⟩
  all_goals
    go_wp2_with (first | (go_at_call 87; refine (rsmall_any _ _).mono ?_; rintro e w' ⟨rfl, rfl⟩; rw [h1]) | (go_at_call 89; refine (rdigit_any _ _).mono ?_; rintro e w' ⟨rfl, rfl⟩; rw [h2]) | (go_at_call 92; refine (rgreat_any _ _).mono ?_; rintro e w' ⟨rfl, rfl⟩; rw [h4]))
    clear h1 h2 h3 h4
    go_loop [10] (fun i => ∃ k : Nat, k ≤ 10 ∧ i = .int .i64 k ∧ Hid (∀ j (hj : j < 10), j < k → (markF[j]'hj) ≠ s[a])) (fun i => 10 - (intOf i).toNat)
    case atStart => exact ⟨0, by omega, rfl, fun j hj h => by omega⟩
    case round =>
      obtain ⟨k, hk, rfl, HAll⟩ := hrel
      by_cases hlt : k < 10
      · by_cases hm : (markF[k]'hlt) = s[a]
        · have q : (((markF[k]'hlt).toNat : Int) == s[a].toNat) = true := by rw [hm, beq_self_eq_true]
          have R := Lib.hid (R1.out.trans (if_pos (mark_yes hlt hm)))
          have T := Lib.hid (show (markF.extract k (k + 1)).data.toList = [s[a]] by rw [markF_ext k hlt, hm])
          unfold markF at q T
          clear hm
          go_wp2_with fail
          exact bodyPost_ret (v := .tuple #[.agg #[.int .i64 8, .string ((⟨#[40, 41, 44, 59, 61, 60, 43, 45, 42, 47]⟩ : ByteArray).extract k (k + 1)), .int .i64 0, .int .i64 a], .int .i64 1, .int .i64 0]) (by simp [results, Tryz.results56, go_sem, c0, c1, c2, c3]) rfl (tokP_ok R.out (below4 HB.out _ _ _ _) rfl T.out rfl rfl rfl)
        · have q : (((markF[k]'hlt).toNat : Int) == s[a].toNat) = false := by rw [beq_eq_false_iff_ne]; exact fun e => hm (UInt8.toNat_inj.1 (Int.ofNat.inj e))
          have HM := Lib.hid hm
          unfold markF at q
          clear hm
          go_wp2_with fail
          go_round
          case rel =>
            refine ⟨k + 1, by omega, by go_num, fun j hj h => ?_⟩
            by_cases e : j = k
            · subst e; exact HM.out
            · exact HAll.out j hj (by omega)
          case measure => simp [intOf]; omega
      · have R := Lib.hid (R1.out.trans (if_neg (by rw [mark_no fun j hj => HAll.out j hj (by omega)]; decide)))
        go_wp2_with fail
        exact bodyPost_ret (v := .tuple #[.agg #[.int .i64 0, .string ⟨#[]⟩, .int .i64 0, .int .i64 0], .int .i64 0, .int .i64 71]) (by simp [results, Tryz.results56, go_sem, c0, c1, c2, c3]) rfl (tokP_err R.out (by decide) (below4 HB.out _ _ _ _))

end Go.Proofs.YtcndknkdhlmdnaaGreatDoor

/-
  usanceref07.Scan.
-/
namespace Go.Proofs.YtcndknkdhlmdnaaGreatDoor
open Go.RowKit
set_option maxRecDepth 100000

/-- what a scan hands back -/
def ScanP (T : TypeId) (r : Except (Int × Int) (List Tk)) (w : World) (e : Ending) (w' : World) : Prop :=
  Below w.heap.size w w' ∧ match r with
    | .ok ts => ∃ g cap, e = .returned (.tuple #[.slice (some ⟨g, 0, none⟩) ts.length cap, .int .i64 0, .int .i64 0]) ∧ w'.ownsRow w.heap.size T 4 (.slice (some ⟨g, 0, none⟩) ts.length cap) ts.length (tksCells ts)
    | .error (c, p) => c ≠ 0 ∧ e = .returned (.tuple #[.slice none 0 0, .int .i64 p, .int .i64 c])
theorem scanP_err {T : TypeId} {r : Except (Int × Int) (List Tk)} {w w' : World} {c p : Int} (h : r = .error (c, p)) (hc : c ≠ 0) (hb : Below w.heap.size w w') : ScanP T r w (.returned (.tuple #[.slice none 0 0, .int .i64 p, .int .i64 c])) w' := by
  subst h; exact ⟨hb, hc, rfl⟩
theorem remR_of {s : ByteArray} {a b : Nat} (h1 : a + 1 ≤ b) (hb : b ≤ s.size) (h : ∀ j (hj : j < s.size), a ≤ j → j < b → s[j] ≠ 10) (h' : ∀ (hk : b < s.size), s[b] = 10) : remR (s.data.toList.drop (a + 1)) = b - (a + 1) := by
  have hl : (s.data.toList.drop (a + 1)).length = s.size - (a + 1) := by rw [List.length_drop, size_list]
  obtain ⟨d, rfl⟩ : ∃ d, b = a + 1 + d := ⟨b - (a + 1), by omega⟩
  rw [Nat.add_sub_cancel_left]
  refine takeWhile_len (· != 10) _ _ (by rw [hl]; omega) (fun j hj hjk => ?_) fun hj => ?_
  · rw [List.getElem_drop, bne_iff_ne]
    exact h (a + 1 + j) (by rw [hl] at hj; omega) (by omega) (by omega)
  · rw [List.getElem_drop]
    have := h' (by rw [hl] at hj; omega)
    rw [show s.data.toList[a + 1 + d]'(by rw [size_list]; rw [hl] at hj; omega) = 10 from this]; rfl
theorem u8_le (c : UInt8) : (c.toNat ≤ 32) ↔ ((c.toNat : Int) ≤ 32) := by omega

set_option maxHeartbeats 2000000 in
theorem rScan_any (s : ByteArray) (w : World) (hs : s.size ≤ maxLen) :
    Calls Tryz.prog 28 #[.string s] w (ScanP 39 (scanT s.data.toList) w) := by
  have hm := hs
  unfold maxLen at hm
  have HL := Lib.hid (size_list s)
  by_cases hbig : 16384 < (s.size : Int)
  · have R := Lib.hid (show scanT s.data.toList = .error (70, 0) by unfold scanT; rw [if_pos (by rw [HL.out]; omega)])
    go_enter Tryz.func28, Tryz.ntmps28
    go_wp2_with fail
    go_ret3
    exact scanP_err R.out (by decide) (Below.refl _ _)
  have hs2 : s.size ≤ 16384 := by omega
  have R := Lib.hid (show scanT s.data.toList = scanS s.data.toList 0 0 0 by unfold scanT; rw [if_neg (by rw [HL.out]; omega)])
  obtain ⟨i0, hi, hz0, hz1, hz2⟩ := info_parts (show (Tryz.prog.info? 39).map (fun i => (i.zero, i.size, i.bytes)) = some (some (.agg #[.int .i64 0, .string ⟨#[]⟩, .int .i64 0, .int .i64 0]), 4, 40) by kernel_rfl)
  have HI0 := Lib.hid (show _ ∧ _ ∧ _ ∧ _ from ⟨hi, hz0, hz1, hz2⟩)
  clear hi hz0 hz1 hz2
  go_enter Tryz.func28, Tryz.ntmps28
  go_wp2_with fail
  clear hbig
  go_loopw [5, 6, 7, 8, 9] (fun v i _ _ _ wr => ∃ (a : Nat) (ts : List Tk), a ≤ s.size ∧ i = .int .i64 a ∧ ts.length ≤ 8192 ∧ Hid (wr.ownsRow w.heap.size 39 4 v ts.length (tksCells ts)) ∧ (∃ ao cap, v = .slice ao ts.length cap) ∧ Hid (Below w.heap.size w wr) ∧ Hid (scanT s.data.toList = ahead ts (scanS (s.data.toList.drop a) a ts.length 0))) (fun _ i _ _ _ _ => s.size - (intOf i).toNat)
  case atStart => exact ⟨0, [], by omega, rfl, by decide, World.ownsRow_nil _ _ _ _, ⟨none, 0, rfl⟩, Below.refl _ _, by show _ = _; rw [ahead_nil]; exact R.out⟩
  case round =>
    obtain ⟨a, ts, ha, rfl, htl, HOW, ⟨ao, cp, rfl⟩, HBr, HSC⟩ := hrel
    by_cases hlt : a < s.size
    · have D := Lib.hid (drop_at hlt)
      have HC := Lib.hid HSC.out
      rw [D.out] at HC
      by_cases h32 : (s[a].toNat : Int) ≤ 32
      · have X := Lib.hid (show scanT s.data.toList = ahead ts (scanS (s.data.toList.drop (a + 1)) ((a + 1 : Nat) : Int) ts.length 0) by
          rw [HC.out, scan_blank ((u8_le _).2 h32), show (a : Int) + 1 = ((a + 1 : Nat) : Int) by omega])
        go_wp2_with fail
        go_roundw
        case rel => exact ⟨a + 1, ts, by omega, by go_num, htl, HOW, ⟨ao, cp, rfl⟩, HBr, X⟩
        case measure => simp [intOf]; omega
      have h32' := Lib.hid (show ¬ s[a].toNat ≤ 32 from fun h => h32 ((u8_le _).1 h))
      by_cases h35 : (s[a].toNat : Int) = 35
      · have e35 : ((s[a].toNat : Int) == 35) = true := by rw [h35]; rfl
        have e35' : s[a] = 35 := UInt8.toNat_inj.1 (Int.ofNat.inj h35)
        have X := Lib.hid (show scanT s.data.toList = ahead ts (scanS (s.data.toList.drop (a + 1 + remR (s.data.toList.drop (a + 1)))) ((a + 1 + remR (s.data.toList.drop (a + 1)) : Nat) : Int) ts.length 0) by
          rw [HC.out, scan_rem e35', List.drop_drop, show (a : Int) + 1 + (remR (s.data.toList.drop (a + 1)) : Nat) = ((a + 1 + remR (s.data.toList.drop (a + 1)) : Nat) : Int) by omega])
        have e10 : ((s[a].toNat : Int) != 10) = true := by rw [h35]; rfl
        have E10 := Lib.hid e10
        clear h35 e35' e10
        go_wp2_with fail
        have HOW' := HOW
        have HBr' := HBr
        clear HOW HBr
        generalize wr = wo at HOW' HBr' ⊢
        go_loop [6] (fun i => ∃ b : Nat, a ≤ b ∧ b ≤ s.size ∧ i = .int .i64 b ∧ Hid (∀ j (hj : j < s.size), a ≤ j → j < b → s[j] ≠ 10)) (fun i => s.size - (intOf i).toNat)
        case atStart => exact ⟨a, Nat.le_refl _, by omega, rfl, fun j hj h h' => by omega⟩
        case round =>
          obtain ⟨b, hab, hb, rfl, HAll⟩ := hrel
          have hgo : (∃ hlt : b < s.size, s[b] ≠ 10) ∨ (∃ hlt : b < s.size, s[b] = 10) ∨ ¬ b < s.size := by
            by_cases h : b < s.size
            · by_cases h' : s[b] = 10
              · exact .inr (.inl ⟨h, h'⟩)
              · exact .inl ⟨h, h'⟩
            · exact .inr (.inr h)
          rcases hgo with ⟨hlb, hg⟩ | ⟨hlb, hg⟩ | hlb
          · have q : ((s[b].toNat : Int) != 10) = true := by rw [bne_iff_ne]; exact fun e => hg (UInt8.toNat_inj.1 (Int.ofNat.inj e))
            have HG := Lib.hid hg
            clear hg
            go_wp2_with fail
            go_round
            case rel =>
              refine ⟨b + 1, by omega, by omega, by go_num, fun j hj h h' => ?_⟩
              by_cases e : j = b
              · subst e; exact HG.out
              · exact HAll.out j hj h (by omega)
            case measure => simp [intOf]; omega
          case' inr.inl =>
            have q : ((s[b].toNat : Int) != 10) = false := by rw [hg]; rfl
            have hne : a + 1 ≤ b := by
              rcases Nat.lt_or_ge a b with g | g
              · omega
              · exfalso
                obtain rfl : a = b := by omega
                have := E10.out
                rw [hg] at this; exact absurd this (by decide)
            have HR := Lib.hid (remR_of hne hb HAll.out fun _ => hg)
            clear hg
          case' inr.inr =>
            have q : True := trivial
            have hne : a + 1 ≤ b := by omega
            have HR := Lib.hid (remR_of hne hb HAll.out fun h => absurd h hlb)
          all_goals
            have X2 := Lib.hid (show scanT s.data.toList = ahead ts (scanS (s.data.toList.drop b) ((b : Nat) : Int) ts.length 0) by
              have := X.out
              rw [HR.out, show a + 1 + (b - (a + 1)) = b by omega] at this
              exact this)
            clear X HR HAll
            go_wp2_with fail
            go_roundw
            case rel => exact ⟨b, ts, by omega, rfl, htl, HOW', ⟨ao, cp, rfl⟩, HBr', X2⟩
            case measure => simp [intOf]; omega
      have e35 : ((s[a].toNat : Int) == 35) = false := beq_eq_false_iff_ne.2 h35
      have e35' := Lib.hid (show s[a] ≠ 35 from fun e => h35 (by rw [e]; rfl))
      have CT := Lib.hid (rtoken_any s a wr hs2 hlt)
      clear h35
      go_wp2_with fail
      (with_reducible refine Calls.mono CT.out ?_)
      rintro e w1 ⟨hb, hr⟩
      have HB1 := Lib.hid (HBr.out.trans (hb.mono HBr.out.size))
      have HO1 := Lib.hid (show w1.ownsRow w.heap.size 39 4 (.slice ao ts.length cp) ts.length (tksCells ts) from HOW.out.kept (row := none) ⟨hb.os, hb.tape, hb.output, hb.size, fun k hk _ => hb.block k hk⟩ (by cases hv : (Value.slice ao ts.length cp).ownBlock <;> simp))
      have hz1 : w.heap.size ≤ w1.heap.size := HB1.out.size
      cases hx : tokS s[a] (s.data.toList.drop (a + 1)) a with
      | error c =>
        rw [hx] at hr
        obtain ⟨hc, k', s', x', p', rfl⟩ := hr
        have X := Lib.hid (show scanT s.data.toList = .error (c, a) by rw [HC.out, scan_err h32'.out e35'.out hx]; rfl)
        have HC0 := Lib.hid hc
        have hc' : (c != 0) = true := by rw [bne_iff_ne]; exact hc
        have HB2 := Lib.hid (HB1.out.trans ((Below.refl w1.heap.size w1).mono hz1))
        clear hb hc hx
        go_wp2_with fail
        go_ret3
        exact scanP_err X.out HC0.out (HB2.out.alloc hz1 _)
      | ok q =>
        obtain ⟨t, n⟩ := q
        rw [hx] at hr
        have hln := tok_len hx
        have hln2 : n ≤ s.size - a := by
          have := hln.2
          rw [List.length_drop, HL.out] at this; omega
        replace hr : e = .returned (.tuple #[.agg #[.int .i64 t.kind, .string ⟨t.text.toArray⟩, .int .i64 t.n, .int .i64 t.pos], .int .i64 n, .int .i64 0]) := hr
        subst hr
        by_cases hk : ts.length = 8192
        · have X := Lib.hid (show scanT s.data.toList = .error (76, a) by rw [HC.out, scan_many h32'.out e35'.out hx hk]; rfl)
          have ek : ((ts.length : Int) == 8192) = true := by rw [hk]; rfl
          clear hb hx hk
          go_wp2_with fail
          go_ret3
          exact scanP_err X.out (by decide) (HB1.out.alloc hz1 _)
        · have X := Lib.hid (show scanT s.data.toList = ahead (ts ++ [t]) (scanS (s.data.toList.drop (a + n)) ((a + n : Nat) : Int) (ts ++ [t]).length 0) by
            rw [HC.out, scan_tok h32'.out e35'.out hx hk, ahead_app, ← D.out, List.drop_drop, List.length_append]
            congr 2)
          have ek : ((ts.length : Int) == 8192) = false := by rw [beq_eq_false_iff_ne]; omega
          obtain ⟨hn1, -⟩ := hln
          have htl8 : ts.length + 1 ≤ 8192 := by omega
          clear hb hx hk
          have hs1 : (w1.alloc (.cells #[.int .i64 t.kind, .string ⟨t.text.toArray⟩, .int .i64 t.n, .int .i64 t.pos] 39)).heap.size = w1.heap.size + 1 := by simp
          have HB2 := Lib.hid (HB1.out.alloc hz1 (.cells #[.int .i64 t.kind, .string ⟨t.text.toArray⟩, .int .i64 t.n, .int .i64 t.pos] 39))
          have HO2 := Lib.hid (HO1.out.alloc (.cells #[.int .i64 t.kind, .string ⟨t.text.toArray⟩, .int .i64 t.n, .int .i64 t.pos] 39))
          have hz2 : w.heap.size ≤ w1.heap.size + 1 := by omega
          go_wp2_with (at_builtin; refine wpList_append_lies _ rfl _ _ 35 rfl w.heap.size 39 i0 (.agg #[.int .i64 0, .string ⟨#[]⟩, .int .i64 0, .int .i64 0]) 4 40 Tryz.underlying35 HI0.out.1 HI0.out.2.1 HI0.out.2.2.1 HI0.out.2.2.2 rfl (by decide) _ _ _ rfl (HO2.out.alloc _) ⟨w1.heap.size + 1, 0, none⟩ 1 1 (tkCells t) rfl rfl (hs1 ▸ cells4_new _ _ _ _ _ _) (tk_one t) (by decide) (by unfold maxLen; omega) (by omega) (by simp; omega) _ rfl ?_; intro g cap' w5 hown' hgrow' hat hltg; have Z := Lib.hid (tok_append (HB2.out.alloc (by rw [hs1]; exact hz2) _) (HO2.out.alloc _) hown' hgrow' (by simp; omega)); clear hown' hgrow' hat hltg)
          go_roundw
          case rel =>
            have el : (ts ++ [t]).length = ts.length + 1 := by rw [List.length_append]; rfl
            have z := Z.out.2
            rw [el] at z
            refine ⟨a + n, ts ++ [t], by omega, by go_num, by rw [el]; exact htl8, by rw [el]; exact z, ⟨some ⟨g, 0, none⟩, cap', by rw [el]⟩, Z.out.1, X⟩
          case measure => simp [intOf]; omega
    · obtain rfl : a = s.size := by omega
      have X := Lib.hid (show scanT s.data.toList = .ok (ts ++ [⟨0, [], 0, s.size⟩]) by
        have := HSC.out
        rw [drop_end (Nat.le_refl _)] at this
        exact this)
      have hz0 : w.heap.size ≤ wr.heap.size := HBr.out.size
      go_wp2_with (at_builtin; refine wpList_append_lies _ rfl _ _ 35 rfl w.heap.size 39 i0 (.agg #[.int .i64 0, .string ⟨#[]⟩, .int .i64 0, .int .i64 0]) 4 40 Tryz.underlying35 HI0.out.1 HI0.out.2.1 HI0.out.2.2.1 HI0.out.2.2.2 rfl (by decide) _ _ _ rfl (HOW.out.alloc _) ⟨wr.heap.size, 0, none⟩ 1 1 (tkCells ⟨0, [], 0, s.size⟩) rfl rfl (cells4_new _ _ _ _ _ _) (tk_one _) (by decide) (by unfold maxLen; omega) (by omega) (by simp; omega) _ rfl ?_; intro g cap' w5 hown' hgrow' hat hltg; have Z := Lib.hid (tok_append (HBr.out.alloc hz0 _) (HOW.out.alloc _) hown' hgrow' (by simp; omega)); clear hown' hgrow' hat hltg)
      go_ret3
      refine ⟨Z.out.1, ?_⟩
      rw [X.out]
      exact ⟨g, cap', by rw [List.length_append]; rfl, Z.out.2⟩

end Go.Proofs.YtcndknkdhlmdnaaGreatDoor
