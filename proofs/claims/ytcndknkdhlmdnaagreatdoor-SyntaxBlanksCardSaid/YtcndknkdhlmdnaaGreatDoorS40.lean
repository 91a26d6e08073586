/-
  Complement: what one text more of RefTk is rested on.
-/
import Derived.Test.YtcndknkdhlmdnaaGreatDoorS09
import Derived.Test.YtcndknkdhlmdnaaGreatDoorS39
namespace Go.Proofs.YtcndknkdhlmdnaaGreatDoor
open Go.RowKit
set_option maxRecDepth 100000

/-- what a reading of one token hands back -/
def TokP (r : Except Int (Tk × Nat)) (w : World) (e : Ending) (w' : World) : Prop :=
  Below w.heap.size w w' ∧ match r with
    | .ok (t, n) => e = .returned (.tuple #[tkV t, .int .i64 n, .int .i64 0])
    | .error c => c ≠ 0 ∧ ∃ (k : Int) (s : ByteArray) (x p : Int), e = .returned (.tuple #[.agg #[.int .i64 k, .string s, .int .i64 x, .int .i64 p], .int .i64 0, .int .i64 c])
theorem tokP_ok {r : Except Int (Tk × Nat)} {w w' : World} {k x p : Int} {s : ByteArray} {n : Int} {t : Tk} {m : Nat} (h : r = .ok (t, m)) (hb : Below w.heap.size w w') (hk : k = t.kind) (hs : s.data.toList = t.text) (hx : x = t.n) (hp : p = t.pos) (hn : n = m) :
    TokP r w (.returned (.tuple #[.agg #[.int .i64 k, .string s, .int .i64 x, .int .i64 p], .int .i64 n, .int .i64 0])) w' := by
  subst h hk hx hp hn
  refine ⟨hb, ?_⟩
  show Ending.returned _ = Ending.returned _
  unfold tkV
  rw [← hs]
theorem tokP_err {r : Except Int (Tk × Nat)} {w w' : World} {k x p : Int} {s : ByteArray} {c : Int} (h : r = .error c) (hc : c ≠ 0) (hb : Below w.heap.size w w') :
    TokP r w (.returned (.tuple #[.agg #[.int .i64 k, .string s, .int .i64 x, .int .i64 p], .int .i64 0, .int .i64 c])) w' := by
  subst h
  exact ⟨hb, hc, k, s, x, p, rfl⟩
/-- a fresh token's place -/
def Zero (b : Nat) (w : World) : Prop := w.heap[b]? = some (.cells #[.int .i64 0, .string ⟨#[]⟩, .int .i64 0, .int .i64 0] 39 (0, 0))
theorem Zero.below {b : Nat} {w w' : World} (h : Zero b w) (hb : Below w.heap.size w w') : Zero b w' := (hb.block b (Array.getElem?_eq_some_iff.1 h).1).trans h
theorem Zero.make (w : World) : Zero w.heap.size (w.alloc (.cells #[.int .i64 0, .string ⟨#[]⟩, .int .i64 0, .int .i64 0] 39)) := by
  show (w.heap.push _)[w.heap.size]? = _; simp
theorem Zero.cells {b : Nat} {w : World} (h : Zero b w) : w.cell? ⟨b, 0, none⟩ = some (.int .i64 0) ∧ w.cell? ⟨b, 1, none⟩ = some (.string ⟨#[]⟩) ∧ w.cell? ⟨b, 2, none⟩ = some (.int .i64 0) ∧ w.cell? ⟨b, 3, none⟩ = some (.int .i64 0) ∧
    w.frozen? ⟨b, 0, none⟩ = false ∧ w.frozen? ⟨b, 1, none⟩ = false ∧ w.frozen? ⟨b, 2, none⟩ = false ∧ w.frozen? ⟨b, 3, none⟩ = false := by
  have h' : w.heap[b]? = some (.cells #[.int .i64 0, .string ⟨#[]⟩, .int .i64 0, .int .i64 0] 39 (0, 0)) := h
  refine ⟨?_, ?_, ?_, ?_, ?_, ?_, ?_, ?_⟩ <;> simp [World.cell?, World.frozen?, h']
set_option maxHeartbeats 2000000 in
theorem rnamed_any (s : ByteArray) (a : Nat) (w : World) (hs : s.size ≤ 16384) (ha : a < s.size) :
    Calls Tryz.prog 88 #[.string s, .int .i64 a] w (TokP (namedS (s.data.toList.drop a) a) w) := by
  have hsp := span_drop_le s a
  obtain ⟨n, hn⟩ : ∃ n, n = spanL (s.data.toList.drop a) := ⟨_, rfl⟩
  rw [← hn] at hsp
  have N := Lib.hid (show namedS (s.data.toList.drop a) a = (if ((s.data.toList.drop a).drop n).headD 0 = 46 then
      if 24 < n ∨ spanL ((s.data.toList.drop a).drop (n + 1)) < 1 ∨ 24 < spanL ((s.data.toList.drop a).drop (n + 1)) ∨ wordL ((s.data.toList.drop a).take n) = true ∨ wordL (((s.data.toList.drop a).drop (n + 1)).take (spanL ((s.data.toList.drop a).drop (n + 1)))) = true then .error 73
      else .ok (⟨3, (s.data.toList.drop a).take n ++ 46 :: ((s.data.toList.drop a).drop (n + 1)).take (spanL ((s.data.toList.drop a).drop (n + 1))), 0, a⟩, n + 1 + spanL ((s.data.toList.drop a).drop (n + 1)))
    else if 24 < n then .error 73 else .ok (⟨if wordL ((s.data.toList.drop a).take n) = true then 2 else 1, (s.data.toList.drop a).take n, 0, a⟩, n)) by rw [hn]; rfl)
  simp only [List.drop_drop] at N
  have T := Lib.hid (show (s.extract a (a + n)).data.toList = (s.data.toList.drop a).take n by rw [ext_list, Nat.add_sub_cancel_left])
  have hte := ext_size s a (a + n) (by omega)
  rw [Nat.add_sub_cancel_left] at hte
  have hts : (s.extract a (a + n)).size ≤ 16384 := by omega
  have C1 := Lib.hid (rspan_any s a (w.alloc (.cells #[.int .i64 0, .string ⟨#[]⟩, .int .i64 0, .int .i64 0] 39)) (Nat.le_trans hs (by decide)) (by unfold maxLen; omega))
  rw [← hn] at C1
  have HB := Lib.hid (nbelow1 w (.cells #[.int .i64 0, .string ⟨#[]⟩, .int .i64 0, .int .i64 0] 39))
  clear hn hte
  go_enter Tryz.func88, Tryz.ntmps88
  go_wp2_with fail
  (with_reducible refine Calls.mono C1.out ?_)
  rintro e w1 ⟨rfl, rfl⟩
  go_wp2_with fail
  have CW := Lib.hid (rIsWord_any (s.extract a (a + n)) (w.alloc (.cells #[.int .i64 0, .string ⟨#[]⟩, .int .i64 0, .int .i64 0] 39)))
  rw [T.out] at CW
  (with_reducible refine Calls.mono CW.out ?_)
  rintro e w2 ⟨rfl, hb⟩
  have HC := Lib.hid (HB.out.trans (hb.mono HB.out.size))
  have Z2 := Lib.hid ((Zero.make w).below hb)
  clear hb CW
  have hdot : (a + n < s.size ∧ ∃ h : a + n < s.size, (s[a + n].toNat : Int) = 46) ∨ (a + n < s.size ∧ ∃ h : a + n < s.size, ¬ (s[a + n].toNat : Int) = 46) ∨ ¬ a + n < s.size := by
    by_cases h : a + n < s.size
    · by_cases h' : (s[a + n].toNat : Int) = 46
      · exact .inl ⟨h, h, h'⟩
      · exact .inr (.inl ⟨h, h, h'⟩)
    · exact .inr (.inr h)
  rcases hdot with ⟨hlt, _, hd⟩ | ⟨hlt, _, hd⟩ | hlt
  · have hd' : ((s[a + n].toNat : Int) == 46) = true := by rw [hd]; rfl
    have NN := Lib.hid (N.out.trans (if_pos (by rw [head_drop hlt]; exact UInt8.toNat_inj.1 (Int.ofNat.inj hd))))
    clear hd N
    obtain ⟨m, hm⟩ : ∃ m, m = spanL (s.data.toList.drop (a + (n + 1))) := ⟨_, rfl⟩
    have hsm := span_drop_le s (a + (n + 1))
    rw [← hm] at NN hsm
    have T2 := Lib.hid (show (s.extract (a + n + 1) (a + n + 1 + m)).data.toList = (s.data.toList.drop (a + (n + 1))).take m by rw [ext_list, Nat.add_sub_cancel_left, Nat.add_assoc])
    have hte2 : (s.extract (a + n + 1) (a + n + 1 + m)).size ≤ 16384 := by
      have := ext_size s (a + n + 1) (a + n + 1 + m) (by omega); omega
    have C2 := Lib.hid (rspan_any s (a + n + 1) w2 (Nat.le_trans hs (by decide)) (by unfold maxLen; omega))
    rw [show a + n + 1 = a + (n + 1) by omega, ← hm] at C2
    rw [show (((a + (n + 1) : Nat)) : Int) = (a : Int) + n + 1 by omega] at C2
    clear hm
    go_wp2_with fail
    (with_reducible refine Calls.mono C2.out ?_)
    rintro e w3 ⟨rfl, rfl⟩
    obtain ⟨c0, c1, c2, c3, f0, f1, f2, f3⟩ := Z2.out.cells
    by_cases h1 : 24 < (n : Int)
    · have R := Lib.hid (NN.out.trans (if_pos (.inl (by omega))))
      go_wp2_with fail
      exact bodyPost_ret (v := .tuple #[.agg #[.int .i64 0, .string ⟨#[]⟩, .int .i64 0, .int .i64 0], .int .i64 0, .int .i64 73]) (by simp [results, Tryz.results88, go_sem, c0, c1, c2, c3]) rfl (tokP_err R.out (by decide) (below4 HC.out _ _ _ _))
    by_cases h2 : (m : Int) < 1
    · have R := Lib.hid (NN.out.trans (if_pos (.inr (.inl (by omega)))))
      go_wp2_with fail
      exact bodyPost_ret (v := .tuple #[.agg #[.int .i64 0, .string ⟨#[]⟩, .int .i64 0, .int .i64 0], .int .i64 0, .int .i64 73]) (by simp [results, Tryz.results88, go_sem, c0, c1, c2, c3]) rfl (tokP_err R.out (by decide) (below4 HC.out _ _ _ _))
    by_cases h3 : 24 < (m : Int)
    · have R := Lib.hid (NN.out.trans (if_pos (.inr (.inr (.inl (by omega))))))
      go_wp2_with fail
      exact bodyPost_ret (v := .tuple #[.agg #[.int .i64 0, .string ⟨#[]⟩, .int .i64 0, .int .i64 0], .int .i64 0, .int .i64 73]) (by simp [results, Tryz.results88, go_sem, c0, c1, c2, c3]) rfl (tokP_err R.out (by decide) (below4 HC.out _ _ _ _))
    cases hw : wordL ((s.data.toList.drop a).take n)
    case true =>
      have R := Lib.hid (NN.out.trans (if_pos (.inr (.inr (.inr (.inl hw))))))
      go_wp2_with fail
      exact bodyPost_ret (v := .tuple #[.agg #[.int .i64 0, .string ⟨#[]⟩, .int .i64 0, .int .i64 0], .int .i64 0, .int .i64 73]) (by simp [results, Tryz.results88, go_sem, c0, c1, c2, c3]) rfl (tokP_err R.out (by decide) (below4 HC.out _ _ _ _))
    have CW2 := Lib.hid (rIsWord_any (s.extract (a + n + 1) (a + n + 1 + m)) w2)
    rw [T2.out] at CW2
    cases hw2 : wordL ((s.data.toList.drop (a + (n + 1))).take m)
    all_goals
      go_wp2_with fail
      (with_reducible refine Calls.mono CW2.out ?_)
      rintro e w4 ⟨rfl, hb⟩
      rw [hw2]
      replace HC := Lib.hid (HC.out.trans (hb.mono HC.out.size))
      replace Z2 := Lib.hid (Z2.out.below hb)
      clear hb CW2 c0 c1 c2 c3 f0 f1 f2 f3
      obtain ⟨c0, c1, c2, c3, f0, f1, f2, f3⟩ := Z2.out.cells
    · have R := Lib.hid (NN.out.trans (if_neg (by rw [hw, hw2]; simp; omega)))
      go_wp2_with fail
      exact bodyPost_ret (v := .tuple #[.agg #[.int .i64 3, .string (s.extract a (a + n) ++ ⟨#[46]⟩ ++ s.extract (a + n + 1) (a + n + 1 + m)), .int .i64 0, .int .i64 a], .int .i64 ((n : Int) + 1 + m), .int .i64 0]) (by simp [results, Tryz.results88, go_sem, c0, c1, c2, c3]) rfl (tokP_ok R.out (below4 HC.out _ _ _ _) rfl (by simp only [ByteArray.data_append, Array.toList_append, T.out, T2.out]; simp) rfl rfl (by omega))
    · have R := Lib.hid (NN.out.trans (if_pos (.inr (.inr (.inr (.inr hw2))))))
      go_wp2_with fail
      exact bodyPost_ret (v := .tuple #[.agg #[.int .i64 0, .string ⟨#[]⟩, .int .i64 0, .int .i64 0], .int .i64 0, .int .i64 73]) (by simp [results, Tryz.results88, go_sem, c0, c1, c2, c3]) rfl (tokP_err R.out (by decide) (below4 HC.out _ _ _ _))
  · have hd' : ((s[a + n].toNat : Int) == 46) = false := beq_eq_false_iff_ne.2 hd
    have NN := Lib.hid (N.out.trans (if_neg (by rw [head_drop hlt]; exact fun e => hd (by rw [e]; rfl))))
    clear hd
    clear N
    obtain ⟨c0, c1, c2, c3, f0, f1, f2, f3⟩ := Z2.out.cells
    by_cases h24 : 24 < (n : Int)
    · have R := Lib.hid (NN.out.trans (if_pos (by omega)))
      go_wp2_with fail
      exact bodyPost_ret (v := .tuple #[.agg #[.int .i64 0, .string ⟨#[]⟩, .int .i64 0, .int .i64 0], .int .i64 0, .int .i64 73]) (by simp [results, Tryz.results88, go_sem, c0, c1, c2, c3]) rfl (tokP_err R.out (by decide) (below4 HC.out _ _ _ _))
    · have R := Lib.hid (NN.out.trans (if_neg (by omega)))
      cases hw : wordL ((s.data.toList.drop a).take n)
      · rw [hw] at R
        go_wp2_with fail
        exact bodyPost_ret (v := .tuple #[.agg #[.int .i64 1, .string (s.extract a (a + n)), .int .i64 0, .int .i64 a], .int .i64 n, .int .i64 0]) (by simp [results, Tryz.results88, go_sem, c0, c1, c2, c3]) rfl (tokP_ok R.out (below4 HC.out _ _ _ _) rfl T.out rfl rfl (by omega))
      · rw [hw] at R
        go_wp2_with fail
        exact bodyPost_ret (v := .tuple #[.agg #[.int .i64 2, .string (s.extract a (a + n)), .int .i64 0, .int .i64 a], .int .i64 n, .int .i64 0]) (by simp [results, Tryz.results88, go_sem, c0, c1, c2, c3]) rfl (tokP_ok R.out (below4 HC.out _ _ _ _) rfl T.out rfl rfl (by omega))
  · have NN := Lib.hid (N.out.trans (if_neg (by rw [head_end (by omega)]; decide)))
    clear N
    obtain ⟨c0, c1, c2, c3, f0, f1, f2, f3⟩ := Z2.out.cells
    by_cases h24 : 24 < (n : Int)
    · have R := Lib.hid (NN.out.trans (if_pos (by omega)))
      go_wp2_with fail
      exact bodyPost_ret (v := .tuple #[.agg #[.int .i64 0, .string ⟨#[]⟩, .int .i64 0, .int .i64 0], .int .i64 0, .int .i64 73]) (by simp [results, Tryz.results88, go_sem, c0, c1, c2, c3]) rfl (tokP_err R.out (by decide) (below4 HC.out _ _ _ _))
    · have R := Lib.hid (NN.out.trans (if_neg (by omega)))
      cases hw : wordL ((s.data.toList.drop a).take n)
      · rw [hw] at R
        go_wp2_with fail
        exact bodyPost_ret (v := .tuple #[.agg #[.int .i64 1, .string (s.extract a (a + n)), .int .i64 0, .int .i64 a], .int .i64 n, .int .i64 0]) (by simp [results, Tryz.results88, go_sem, c0, c1, c2, c3]) rfl (tokP_ok R.out (below4 HC.out _ _ _ _) rfl T.out rfl rfl (by omega))
      · rw [hw] at R
        go_wp2_with fail
        exact bodyPost_ret (v := .tuple #[.agg #[.int .i64 2, .string (s.extract a (a + n)), .int .i64 0, .int .i64 a], .int .i64 n, .int .i64 0]) (by simp [results, Tryz.results88, go_sem, c0, c1, c2, c3]) rfl (tokP_ok R.out (below4 HC.out _ _ _ _) rfl T.out rfl rfl (by omega))
end Go.Proofs.YtcndknkdhlmdnaaGreatDoor
