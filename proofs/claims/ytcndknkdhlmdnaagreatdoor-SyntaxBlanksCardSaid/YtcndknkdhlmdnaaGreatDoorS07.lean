/-
  Texts that the statements' proofs rest on, one behind another: SynL, SynM, SynN.
-/
import Derived.Test.YtcndknkdhlmdnaaGreatDoorS06

/-
  A text's tokens are right (no program in sight).
-/
namespace Go.Proofs.YtcndknkdhlmdnaaGreatDoor

theorem takeWhile_self {p : UInt8 → Bool} (l : List UInt8) : (l.take (l.takeWhile p).length).all p = true := by
  induction l with
  | nil => rfl
  | cons a l ih =>
    rw [List.takeWhile_cons]
    cases h : p a with
    | false => rfl
    | true =>
      simp only [if_true, List.length_cons, List.take_succ_cons, List.all_cons, h, Bool.true_and]
      exact ih
theorem all_while {p : UInt8 → Bool} {l : List UInt8} (h : l.all p = true) : l.takeWhile p = l := by
  induction l with
  | nil => rfl
  | cons a l ih =>
    rw [List.all_cons, Bool.and_eq_true] at h
    rw [List.takeWhile_cons, h.1, if_pos rfl, ih h.2]
/-- the bytes of a name that stands ahead are a name -/
theorem span_name {l : List UInt8} (h1 : 1 ≤ spanL l) (h24 : spanL l ≤ 24) : nameL (l.take (spanL l)) = true := by
  rw [← nameR_eq]
  cases l with
  | nil => exact absurd h1 (by decide)
  | cons c r =>
    have e : ∀ x, spanL (c :: x) = if smC c then 1 + (x.takeWhile inC).length else 0 := fun x => rfl
    have hle := takeWhile_le inC r
    rw [e] at h1 h24 ⊢
    split at h1
    · rename_i hc
      rw [if_pos hc] at h24 ⊢
      have hlen : (r.take (r.takeWhile inC).length).length = (r.takeWhile inC).length := by rw [List.length_take]; omega
      rw [Nat.add_comm, List.take_succ_cons]
      unfold nameR
      rw [Bool.and_eq_true, Bool.and_eq_true, e, if_pos hc, all_while (takeWhile_self (p := inC) r), List.length_cons, hlen]
      exact ⟨⟨decide_eq_true (by omega), decide_eq_true (by omega)⟩, decide_eq_true (by omega)⟩
    · omega
theorem index_dot : ∀ (a b : List UInt8), (∀ c ∈ a, c ≠ 46) → Lib.index (a ++ 46 :: b) [46] = a.length
  | [], b, _ => by rw [List.nil_append, Lib.index]; rfl
  | c :: a, b, h => by
    have hc : (46 == c) = false := by rw [beq_eq_false_iff_ne]; exact fun e => h c (List.mem_cons_self ..) e.symm
    rw [List.cons_append, Lib.index, index_dot a b (fun d hd => h d (List.mem_cons_of_mem _ hd))]
    have hp : [46].isPrefixOf (c :: (a ++ 46 :: b)) = false := by rw [List.isPrefixOf, hc, Bool.false_and]
    rw [hp, if_neg (by decide), if_neg (by rw [beq_iff_eq]; omega), List.length_cons]
    omega
theorem cut_dotL {a b : List UInt8} (h : ∀ c ∈ a, c ≠ 46) : Lib.cut (a ++ 46 :: b) [46] = (a, b, true) := by
  unfold Lib.cut
  rw [index_dot a b h, if_pos (by omega)]
  simp
theorem name_dot {l : List UInt8} (h : nameL l = true) : ∀ c ∈ l, c ≠ 46 := fun c hc => (inner_no c (name_inner h c hc)).2
theorem near_mk {l : List UInt8} (h : nameL l = true) (h' : ¬ wordL l = true) : nearL l = true := by
  unfold nearL
  rw [h, Bool.eq_false_iff.2 h']; rfl
theorem far_mk {a b : List UInt8} (ha : nearL a = true) (hb : nearL b = true) : anyL (a ++ 46 :: b) = true := by
  unfold anyL
  rw [cut_dotL (name_dot (near_name ha))]
  simp only [ha, hb]
  rfl
theorem gt_of {k p : Int} {s : List UInt8} {n : Int} (h1 : k = 1 → nearL s = true) (h3 : k = 3 → anyL s = true) (h4 : k = 4 → curL s = true) (h5 : k = 5 → 0 ≤ n ∧ n ≤ 73048) (h6 : k = 6 → 0 ≤ n ∧ n ≤ 1000000000000000) (h7 : k = 7 → nameL s = true) : GT ⟨k, s, n, p⟩ :=
  ⟨h1, h3, h4, h5, h6, h7⟩
theorem named_gt {L : List UInt8} {p : Int} {t : Tk} {n : Nat} (h : namedS L p = .ok (t, n)) (h1 : 1 ≤ spanL L) : GT t := by
  unfold namedS at h
  simp only at h
  split at h
  · split at h
    · cases h
    · rename_i hno
      cases h
      refine gt_of (fun e => absurd e (by decide)) (fun _ => ?_) (fun e => absurd e (by decide)) (fun e => absurd e (by decide)) (fun e => absurd e (by decide)) (fun e => absurd e (by decide))
      exact far_mk (near_mk (span_name h1 (by omega)) (fun e => hno (by simp [e]))) (near_mk (span_name (by omega) (by omega)) (fun e => hno (by simp [e])))
  · split at h
    · cases h
    · cases h
      by_cases hw : wordL (L.take (spanL L)) = true
      · rw [if_pos hw]
        exact gt_of (fun e => absurd e (by decide)) (fun e => absurd e (by decide)) (fun e => absurd e (by decide)) (fun e => absurd e (by decide)) (fun e => absurd e (by decide)) (fun e => absurd e (by decide))
      · rw [if_neg hw]
        exact gt_of (fun _ => near_mk (span_name h1 (by omega)) hw) (fun e => absurd e (by decide)) (fun e => absurd e (by decide)) (fun e => absurd e (by decide)) (fun e => absurd e (by decide)) (fun e => absurd e (by decide))
theorem dayP_bdL {l : List UInt8} {v : Int} (h : dayP l = some v) : 0 ≤ v ∧ v ≤ 73048 := by
  unfold dayP at h
  split at h
  · rename_i hc
    cases h
    exact Cal.num_bd hc.2.2
  · cases h
theorem numU_posL {l : List UInt8} {v : Int} (h : numU l = some v) : 0 ≤ v := by
  unfold numU at h
  simp only at h
  split at h
  · rename_i hc
    cases h
    refine (val_le (n := _) ?_ (Nat.le_refl _)).1
    rw [List.all_append, List.all_append]
    have h1 : (l.takeWhile dgC).all dgC = true := by
      have := takeWhile_self (p := dgC) l
      rwa [show l.take (l.takeWhile dgC).length = l.takeWhile dgC from (List.prefix_iff_eq_take.1 (List.takeWhile_prefix dgC)).symm] at this
    have h2 : ((l.drop (l.takeWhile dgC).length).tail).all dgC = true := by
      have hp := hc.2.2.2
      cases hx : l.drop (l.takeWhile dgC).length with
      | nil => rfl
      | cons a q =>
        rw [hx] at hp
        unfold partOk at hp
        simp only [Bool.and_eq_true] at hp
        exact hp.2.2
    have h3 : (List.replicate (6 - ((l.drop (l.takeWhile dgC).length).tail).length) (48 : UInt8)).all dgC = true := List.all_eq_true.2 fun c hc => by
      rw [List.eq_of_mem_replicate hc]; decide
    rw [h1, h2, h3]; rfl
  · cases h
theorem numP_bdL {l : List UInt8} {v : Int} (h : numP l = some v) (hd : l.headD 0 ≠ 45) : 0 ≤ v ∧ v ≤ 1000000000000000 := by
  unfold numP at h
  rw [if_neg hd] at h
  split at h
  · rename_i n hn
    split at h
    · cases h
    · cases h
      exact ⟨numU_posL hn, by omega⟩
  · cases h
theorem num_gt {c : UInt8} {r : List UInt8} {p : Int} {t : Tk} {n : Nat} (h : numS (c :: r) p = .ok (t, n)) (hc : dgC c = true) : GT t := by
  have h45 : c ≠ 45 := dg_45 hc
  unfold numS at h
  split at h
  · split at h
    · cases h
    · rename_i v hv
      split at h
      · cases h
        exact gt_of (fun e => absurd e (by decide)) (fun e => absurd e (by decide)) (fun e => absurd e (by decide)) (fun _ => dayP_bdL hv) (fun e => absurd e (by decide)) (fun e => absurd e (by decide))
      · cases h
  · split at h
    · cases h
    · rename_i v hv
      split at h
      · cases h
        refine gt_of (fun e => absurd e (by decide)) (fun e => absurd e (by decide)) (fun e => absurd e (by decide)) (fun e => absurd e (by decide)) (fun _ => numP_bdL hv ?_) (fun e => absurd e (by decide))
        have := (numR_len (l := c :: r) (digR_pos hc)).1
        obtain ⟨m, hm⟩ : ∃ m, numR (c :: r) = m + 1 := ⟨numR (c :: r) - 1, by omega⟩
        rw [hm, List.take_succ_cons, List.headD_cons]
        exact h45
      · cases h
theorem tok_gt {c : UInt8} {r : List UInt8} {p : Int} {t : Tk} {n : Nat} (h : tokS c r p = .ok (t, n)) : GT t := by
  unfold tokS at h
  split at h
  · rename_i h1
    exact named_gt h (by show 1 ≤ (if smC c then 1 + (r.takeWhile inC).length else 0); rw [if_pos h1]; omega)
  · split at h
    · rename_i h2
      exact num_gt h h2
    · split at h
      · unfold quotS at h
        split at h
        · cases h
        · split at h
          · rename_i hn
            cases h
            exact gt_of (fun e => absurd e (by decide)) (fun e => absurd e (by decide)) (fun e => absurd e (by decide)) (fun e => absurd e (by decide)) (fun e => absurd e (by decide)) (fun _ => hn)
          · cases h
      · split at h
        · unfold curS at h
          split at h
          · rename_i h3
            cases h
            refine gt_of (fun e => absurd e (by decide)) (fun e => absurd e (by decide)) (fun _ => ?_) (fun e => absurd e (by decide)) (fun e => absurd e (by decide)) (fun e => absurd e (by decide))
            have hg := takeWhile_self (p := grC) (c :: r)
            have h3' : ((c :: r).takeWhile grC).length = 3 := h3
            have hle := takeWhile_le grC (c :: r)
            rw [h3'] at hg hle
            unfold curL
            rw [Bool.and_eq_true]
            refine ⟨decide_eq_true (by rw [List.length_take]; omega), ?_⟩
            rw [← hg]
            exact List.all_congr rfl fun a => great_gr a
          · cases h
        · unfold markS at h
          split at h
          · cases h
            exact gt_of (fun e => absurd e (by decide)) (fun e => absurd e (by decide)) (fun e => absurd e (by decide)) (fun e => absurd e (by decide)) (fun e => absurd e (by decide)) (fun e => absurd e (by decide))
          · split at h
            · cases h
              exact gt_of (fun e => absurd e (by decide)) (fun e => absurd e (by decide)) (fun e => absurd e (by decide)) (fun e => absurd e (by decide)) (fun e => absurd e (by decide)) (fun e => absurd e (by decide))
            · cases h
theorem Scan.gt {u : List UInt8} {p : Int} {l : List Tk} (h : Scan u p l) : ∀ k ∈ l, GT k := by
  induction h with
  | fin p =>
    intro k hk
    rw [List.mem_singleton.1 hk]
    exact gt_of (fun e => absurd e (by decide)) (fun e => absurd e (by decide)) (fun e => absurd e (by decide)) (fun e => absurd e (by decide)) (fun e => absurd e (by decide)) (fun e => absurd e (by decide))
  | blank h hl ih => exact ih
  | rem hl ih => exact ih
  | tok h h' ht hl ih =>
    intro k hk
    rcases List.mem_cons.1 hk with rfl | hk
    · exact tok_gt ht
    · exact ih k hk
theorem tok_kind {c : UInt8} {r : List UInt8} {p : Int} {t : Tk} {n : Nat} (h : tokS c r p = .ok (t, n)) : t.kind ≠ 0 := by
  unfold tokS namedS numS quotS curS markS at h
  simp only at h
  repeat' (split at h)
  all_goals first | (cases h; done) | (cases h; intro e; simp at e; done)
/-- the last token, and no other, is the end -/
theorem Scan.last {u : List UInt8} {p : Int} {l : List Tk} (h : Scan u p l) : ∃ ts e, l = ts ++ [e] ∧ e.kind = 0 ∧ ∀ k ∈ ts, k.kind ≠ 0 := by
  induction h with
  | fin p => exact ⟨[], _, rfl, rfl, fun k hk => by cases hk⟩
  | blank h hl ih => exact ih
  | rem hl ih => exact ih
  | @tok c r p t n l h h' ht hl ih =>
    obtain ⟨ts, e, rfl, he, hk⟩ := ih
    refine ⟨t :: ts, e, rfl, he, fun k hk' => ?_⟩
    rcases List.mem_cons.1 hk' with rfl | h2
    · exact tok_kind ht
    · exact hk k h2
end Go.Proofs.YtcndknkdhlmdnaaGreatDoor

/-
  An expression is read in a module as by itself; a definition more behind a module is one more kid (no program in sight).
-/
namespace Go.Proofs.YtcndknkdhlmdnaaGreatDoor

/-- a text is read whole as this tree -/
def RdOk (rdr : List Tk → Rd) (u : List UInt8) (t : Nd) : Prop := ∃ l r, scanT u = .ok l ∧ rdr l = .ok (t, r) ∧ (hd r).kind = 0
section
variable {b : Bool} {x x' : List Tk}
theorem SimL.done {l l' : List Tk} (h : SimL b x x' l l') (hk : (hd l).kind = 0) : l = x ∧ l' = x' := by
  rcases h.cases with h | h
  · exact h
  · exact absurd hk h.2.2.2.2.1
theorem isT_cons (w : List UInt8) (a : Tk) (l : List Tk) : isT w (a :: l) = ((a.kind == 2 || a.kind == 8) && a.text == w) := rfl
theorem isT_end {w : List UInt8} {l : List Tk} (h : (hd l).kind = 0) : isT w l = false := by unfold isT; rw [h]; rfl
theorem haltE {l : List Tk} (h : (hd l).kind = 0) : Stop l := ⟨by rw [h]; decide, fun w _ => isT_end h⟩
theorem haltW {a : Tk} {l : List Tk} (h : a.kind = 2 ∨ a.kind = 8) (h' : ∀ w ∈ peekT, (a.text == w) = false) : Stop (a :: l) := by
  refine ⟨?_, fun w hw => by rw [isT_cons, h' w hw, Bool.and_false]⟩
  show a.kind ≠ 6 ∧ a.kind ≠ 5 ∧ a.kind ≠ 4 ∧ a.kind ≠ 1 ∧ a.kind ≠ 3
  omega
/-- an expression ahead of the end is read alike ahead of other tokens -/
theorem expr_sim (he : (hd x).kind = 0) (hx' : Stop x') {l l' : List Tk} (n : Nat) (hl : SimL b x x' l l') : SimR b 0 x x' (rd .expr n l) (rd .expr n l') :=
  rd_sim (d := 0) (haltE he) hx' ⟨isT_end he, isT_end he, isT_end he, by rw [he]; decide⟩ n .expr hl
theorem param_sim (he : (hd x).kind = 0) {l l' : List Tk} (hl : SimL b x x' l l') : SimR b 0 x x' (paramR l) (paramR l') :=
  SimR.kind hl (by rw [he]; decide) fun t t' r r' h1 h2 h3 hr => SimR.ok (str_mk h1 rfl h3 rfl) hr
theorem list_sim (he : (hd x).kind = 0) (hx' : Stop x') {rdr : List Tk → Rd} (hr : ∀ l l', SimL b x x' l l' → SimR b 0 x x' (rdr l) (rdr l')) : ∀ (f : Nat) (acc acc' : List Nd) (l l' : List Tk), acc.map (strN b) = acc'.map (strN b) → SimL b x x' l l' → SimR b 0 x x' (listR rdr f acc l) (listR rdr f acc' l')
  | 0, _, _, _, _, _, _ => SimR.error
  | f + 1, acc, acc', l, l', ha, hl => by
    refine (hr l l' hl).then fun t t' r r' ht hr' => ?_
    have e : (acc ++ [t]).map (strN b) = (acc' ++ [t']).map (strN b) := by rw [List.map_append, List.map_append, ha, List.map_singleton, List.map_singleton, ht]
    refine SimR.ite (by rw [hr'.peek (haltE he) hx' (by decide : tComma ∈ peekT)]) (fun h => ?_) fun h => ?_
    · exact list_sim he hx' hr f _ _ _ _ e (hr'.some (haltE he) h (by decide)).2.2.2.2
    · exact SimR.want hr' (isT_end he) fun q q' hq => SimR.ok (str_mk rfl e (fun _ => rfl) rfl) hq
theorem params_sim (he : (hd x).kind = 0) (hx' : Stop x') {l l' : List Tk} (hl : SimL b x x' l l') : SimR b 0 x x' (paramsR l) (paramsR l') := by
  refine SimR.ite (by rw [hl.peek (haltE he) hx' (by decide : tOpen ∈ peekT)]) (fun h => ?_) fun h => ?_
  · exact list_sim he hx' (fun l l' h => param_sim he h) 8 [] [] _ _ rfl (hl.some (haltE he) h (by decide)).2.2.2.2
  · exact SimR.ok rfl hl
theorem let_sim (he : (hd x).kind = 0) (hx' : Stop x') {l l' : List Tk} (hl : SimL b x x' l l') : SimR b 0 x x' (letR l) (letR l') := by
  refine SimR.want hl (isT_end he) fun l l' hl => ?_
  refine SimR.kind hl (by rw [he]; decide) fun t t' l l' h1 h2 h3 hl => ?_
  refine (params_sim he hx' hl).then fun ps ps' l l' hps hl => ?_
  refine SimR.want hl (isT_end he) fun l l' hl => ?_
  refine (expr_sim he hx' 0 hl).then fun u u' l l' hu hl => ?_
  refine SimR.want hl (isT_end he) fun l l' hl => ?_
  refine SimR.ok (str_mk h1 ?_ h3 rfl) hl
  rw [List.map_append, List.map_append, kids_str hps, List.map_singleton, List.map_singleton, hu]
/-- a word that stands ahead of one end stands ahead of the other -/
theorem SimL.is {l l' : List Tk} (h : SimL b x x' l l') {w : List UInt8} (hx : isT w x = false) (hx' : isT w x' = false) : isT w l = isT w l' := by
  rcases h.cases with ⟨rfl, rfl⟩ | h
  · rw [hx, hx']
  · exact isT_sim h.1 h.2.1
theorem SimL.next {l l' : List Tk} (h : SimL b x x' l l') {w : List UInt8} (hx : isT w x = false) (hw : isT w l = true) : SimL b x x' (stepL l) (stepL l') := by
  rcases h.cases with ⟨rfl, rfl⟩ | h
  · rw [hx] at hw; cases hw
  · exact h.2.2.2.2.2
theorem imports_sim (he : (hd x).kind = 0) (hi : isT tImport x' = false) : ∀ (f : Nat) (acc acc' : List Nd) (l l' : List Tk), acc.map (strN b) = acc'.map (strN b) → SimL b x x' l l' → SimR b 0 x x' (importsR f acc l) (importsR f acc' l')
  | 0, acc, acc', l, l', ha, hl => SimR.ite (by rw [hl.is (isT_end he) hi]) (fun _ => SimR.error) fun _ => SimR.ok (str_mk rfl ha (fun _ => rfl) rfl) hl
  | f + 1, acc, acc', l, l', ha, hl => by
    refine SimR.ite (by rw [hl.is (isT_end he) hi]) (fun h => ?_) fun _ => SimR.ok (str_mk rfl ha (fun _ => rfl) rfl) hl
    refine SimR.kind (hl.next (isT_end he) h) (by rw [he]; decide) fun t t' l l' h1 h2 h3 hl => ?_
    refine SimR.want hl (isT_end he) fun l l' hl => ?_
    refine imports_sim he hi f _ _ _ _ ?_ hl
    rw [List.map_append, List.map_append, ha, List.map_singleton, List.map_singleton]
    congr 2
    exact str_mk h1 rfl h3 rfl
end

def preL : List UInt8 := [109, 111, 100, 117, 108, 101, 32, 97, 59, 32, 108, 101, 116, 32, 120, 32, 61, 32]
def preT : List Tk := [⟨2, tModule, 0, 0⟩, ⟨1, [97], 0, 7⟩, ⟨8, tSemi, 0, 8⟩, ⟨2, tLet, 0, 10⟩, ⟨1, [120], 0, 14⟩, ⟨8, tEq, 0, 16⟩]
theorem pre_scan {w : List UInt8} {l : List Tk} (h : Scan w 18 l) : Scan (preL ++ w) 0 (preT ++ l) := by
  refine .tok (n := 6) (by decide) (by decide) rfl ?_
  refine .blank (by decide) ?_
  refine .tok (n := 1) (by decide) (by decide) rfl ?_
  refine .tok (n := 1) (by decide) (by decide) rfl ?_
  refine .blank (by decide) ?_
  refine .tok (n := 3) (by decide) (by decide) rfl ?_
  refine .blank (by decide) ?_
  refine .tok (n := 1) (by decide) (by decide) rfl ?_
  refine .blank (by decide) ?_
  refine .tok (n := 1) (by decide) (by decide) rfl ?_
  refine .blank (by decide) ?_
  exact h
theorem semi_scan (p : Int) : Scan [59] p [⟨8, tSemi, 0, p⟩, ⟨0, [], 0, p + 1⟩] :=
  .tok (n := 1) (by decide) (by decide) rfl (.fin _)
set_option maxRecDepth 100000 in
theorem mod_pre (l : List Tk) : modR (preT ++ l) = (((rd .expr 0 l).then fun x r => wantT tSemi r fun r => .ok (mkN 3 [120] 0 [x] 14, r)).then fun t r => letsR 199 [t] r).then fun ls r => .ok (mkN 1 [97] 0 ls.kids 0, r) := rfl
theorem lets_end (f : Nat) (acc : List Nd) {l : List Tk} (h : (hd l).kind = 0) : letsR f acc l = .ok (mkN 0 [] 0 acc 0, l) := by
  cases f with
  | zero => rw [letsR, if_neg (by rw [isT_end h]; decide)]
  | succ f => rw [letsR, if_neg (by rw [isT_end h]; decide)]
theorem semi_stop (p : Int) (l : List Tk) : Stop (⟨8, tSemi, 0, p⟩ :: l) := haltW (.inr rfl) (show ∀ w ∈ peekT, (tSemi == w) = false by decide)
theorem within_law {u : List UInt8} {t m : Nd} (h : RdOk (rd .expr 0) u t) (h' : RdOk modR (preL ++ (u ++ [10, 59])) m) : ∃ x, m = mkN 1 [97] 0 [mkN 3 [120] 0 [x] 14] 0 ∧ sameN x t = true := by
  obtain ⟨l, r, hs, hr, hk⟩ := h
  obtain ⟨l', r', hs', hr', hk'⟩ := h'
  obtain ⟨hs, -, -⟩ := scanT_of hs
  obtain ⟨hs', -, -⟩ := scanT_of hs'
  obtain ⟨ts, e, rfl, he, hts⟩ := hs.last
  obtain ⟨ts', e', hte, -, hline⟩ := scan_line hs
  obtain ⟨rfl, hee⟩ := List.append_inj' hte rfl
  have S := pre_scan (hline 18 [59] _ (semi_scan _))
  obtain rfl := S.only hs'
  rw [mod_pre] at hr'
  have hsim : SimL false [e] [⟨8, tSemi, 0, (0 : Int) + 18 + u.length + 1⟩, ⟨0, [], 0, (0 : Int) + 18 + u.length + 1 + 1⟩] (ts ++ [e]) (ts.map (shT 18) ++ [⟨8, tSemi, 0, (0 : Int) + 18 + u.length + 1⟩, ⟨0, [], 0, (0 : Int) + 18 + u.length + 1 + 1⟩]) :=
    ⟨ts, ts.map (shT 18), rfl, rfl, by rw [List.map_map]; exact List.map_congr_left fun k _ => rfl, hts⟩
  rcases expr_sim (x := [e]) he (semi_stop _ _) 0 hsim t r hr with ⟨x, q, hx, hst, hq⟩ | ⟨h0, -⟩
  · obtain ⟨-, rfl⟩ := hq.done hk
    rw [hx] at hr'
    replace hr' : ((letsR 199 [mkN 3 [120] 0 [x] 14] [⟨0, [], 0, (0 : Int) + 18 + u.length + 1 + 1⟩]).then fun ls r => Except.ok (mkN 1 [97] 0 ls.kids 0, r)) = .ok (m, r') := hr'
    rw [lets_end _ _ rfl] at hr'
    refine ⟨x, ?_, (same_str x t).2 hst.symm⟩
    have := Except.ok.inj hr'
    exact (Prod.mk.inj this).1.symm
  · exact absurd h0 (by decide)
def moreL : List UInt8 := [32, 108, 101, 116, 32, 122, 122, 32, 61, 32, 49, 59]
def moreT (p : Int) : List Tk := [⟨2, tLet, 0, p + 1⟩, ⟨1, [122, 122], 0, p + 1 + 3 + 1⟩, ⟨8, tEq, 0, p + 1 + 3 + 1 + 2 + 1⟩, ⟨6, [], 1000000, p + 1 + 3 + 1 + 2 + 1 + 1 + 1⟩, ⟨8, tSemi, 0, p + 1 + 3 + 1 + 2 + 1 + 1 + 1 + 1⟩, ⟨0, [], 0, p + 1 + 3 + 1 + 2 + 1 + 1 + 1 + 1 + 1⟩]
theorem more_scan (p : Int) : Scan moreL p (moreT p) := by
  refine .blank (by decide) ?_
  refine .tok (n := 3) (by decide) (by decide) rfl ?_
  refine .blank (by decide) ?_
  refine .tok (n := 2) (by decide) (by decide) rfl ?_
  refine .blank (by decide) ?_
  refine .tok (n := 1) (by decide) (by decide) rfl ?_
  refine .blank (by decide) ?_
  refine .tok (n := 1) (by decide) (by decide) rfl ?_
  refine .tok (n := 1) (by decide) (by decide) rfl ?_
  exact .fin _
def zzN (p : Int) : Nd := mkN 3 [122, 122] 0 [mkN 5 [] 1000000 [] (p + 1 + 3 + 1 + 2 + 1 + 1 + 1)] (p + 1 + 3 + 1)
theorem more_let (p : Int) : letR (moreT p) = .ok (zzN p, [⟨0, [], 0, p + 1 + 3 + 1 + 2 + 1 + 1 + 1 + 1 + 1⟩]) := by
  have e : rd .expr 0 [⟨6, [], 1000000, p + 1 + 3 + 1 + 2 + 1 + 1 + 1⟩, ⟨8, tSemi, 0, p + 1 + 3 + 1 + 2 + 1 + 1 + 1 + 1⟩, ⟨0, [], 0, p + 1 + 3 + 1 + 2 + 1 + 1 + 1 + 1 + 1⟩] = .ok (mkN 5 [] 1000000 [] (p + 1 + 3 + 1 + 2 + 1 + 1 + 1), [⟨8, tSemi, 0, p + 1 + 3 + 1 + 2 + 1 + 1 + 1 + 1⟩, ⟨0, [], 0, p + 1 + 3 + 1 + 2 + 1 + 1 + 1 + 1 + 1⟩]) := rfl
  show ((rd .expr 0 [⟨6, [], 1000000, p + 1 + 3 + 1 + 2 + 1 + 1 + 1⟩, ⟨8, tSemi, 0, p + 1 + 3 + 1 + 2 + 1 + 1 + 1 + 1⟩, ⟨0, [], 0, p + 1 + 3 + 1 + 2 + 1 + 1 + 1 + 1 + 1⟩]).then fun x r => wantT tSemi r fun r => Except.ok (mkN 3 [122, 122] 0 ([] ++ [x]) (p + 1 + 3 + 1), r)) = _
  rw [e]
  rfl
theorem more_stop (p : Int) : Stop (moreT p) := haltW (.inl rfl) (show ∀ w ∈ peekT, (tLet == w) = false by decide)
theorem lets_more {e : Tk} (he : e.kind = 0) (p : Int) : ∀ (f : Nat) (acc : List Nd) (l l' : List Tk) (ls : Nd) (r : List Tk), SimL true [e] (moreT p) l l' → letsR f acc l = .ok (ls, r) → (hd r).kind = 0 →
    (∃ c q, letsR f acc l' = .error (c, q)) ∨ (∃ r', letsR f acc l' = .ok (mkN 0 [] 0 (ls.kids ++ [zzN p]) 0, r')) := by
  intro f
  induction f with
  | zero =>
    intro acc l l' ls r hl h hk
    rw [letsR] at h
    split at h
    · cases h
    · cases h
      obtain ⟨-, rfl⟩ := hl.done hk
      exact .inl ⟨_, _, rfl⟩
  | succ f ih =>
    intro acc l l' ls r hl h hk
    rw [letsR] at h
    split at h
    · rename_i hlet
      cases hx : letR l with
      | error q => rw [hx] at h; cases h
      | ok q =>
        obtain ⟨t, s⟩ := q
        rw [hx] at h
        replace h : letsR f (acc ++ [t]) s = .ok (ls, r) := h
        have hne : isT tLet l' = true := by
          rcases hl.cases with ⟨rfl, rfl⟩ | g
          · rw [isT_end (l := [e]) he] at hlet; cases hlet
          · rw [← isT_sim g.1 g.2.1]; exact hlet
        rw [letsR, if_pos hne]
        rcases let_sim (x := [e]) he (more_stop p) hl t s hx with ⟨t', s', hx', ht, hs⟩ | ⟨h0, -⟩
        · rw [strN_true, strN_true] at ht
          subst ht
          rw [hx']
          exact ih _ _ _ _ _ hs h hk
        · exact absurd h0 (by decide)
    · cases h
      obtain ⟨-, rfl⟩ := hl.done hk
      refine .inr ⟨[⟨0, [], 0, p + 1 + 3 + 1 + 2 + 1 + 1 + 1 + 1 + 1⟩], ?_⟩
      rw [letsR, if_pos (show isT tLet (moreT p) = true from rfl), more_let]
      exact lets_end f _ rfl
theorem shT_0 (t : Tk) : shT 0 t = t := by unfold shT; rw [Int.add_zero]
theorem more_law {u : List UInt8} {n m : Nd} (h : RdOk modR u n) (h' : RdOk modR (u ++ 10 :: moreL) m) : ∃ (s : List UInt8) (ks : List Nd) (p q : Int), n = mkN 1 s 0 ks p ∧ m = mkN 1 s 0 (ks ++ [zzN q]) p := by
  obtain ⟨l, r, hs, hr, hk⟩ := h
  obtain ⟨l', r', hs', hr', hk'⟩ := h'
  obtain ⟨hs, -, -⟩ := scanT_of hs
  obtain ⟨hs', -, -⟩ := scanT_of hs'
  obtain ⟨ts, e, rfl, he, hts⟩ := hs.last
  obtain ⟨ts', e', hte, -, hline⟩ := scan_line hs
  obtain ⟨rfl, -⟩ := List.append_inj' hte rfl
  have S := hline 0 moreL _ (more_scan _)
  rw [Int.zero_add] at S
  obtain rfl := S.only hs'
  have em : ts.map (shT 0) = ts := by rw [List.map_congr_left (g := id) fun k _ => shT_0 k]; exact List.map_id ts
  rw [em] at hr'
  generalize (0 : Int) + u.length + 1 = p at hr'
  have hsim : SimL true [e] (moreT p) (ts ++ [e]) (ts ++ moreT p) := ⟨ts, ts, rfl, rfl, rfl, hts⟩
  clear hline S hs hs' hte em
  generalize ts ++ [e] = l at hr hsim
  generalize ts ++ moreT p = l' at hr' hsim
  have hpos : isT tModule l = true → (hd l).pos = (hd l').pos := fun h => by
    rcases hsim.cases with ⟨rfl, rfl⟩ | g
    · rw [isT_end (l := [e]) he] at h; cases h
    · exact g.2.2.2.1 rfl
  unfold modR at hr hr'
  have hw : isT tModule l = true := by
    unfold wantT at hr
    split at hr
    · assumption
    · cases hr
  have hw' : isT tModule l' = true := by
    rcases hsim.cases with ⟨rfl, rfl⟩ | g
    · rw [isT_end (l := [e]) he] at hw; cases hw
    · rw [← isT_sim g.1 g.2.1]; exact hw
  have hp := hpos hw
  have h1 := hsim.next (isT_end (l := [e]) he) hw
  unfold wantT at hr hr'
  rw [if_pos hw] at hr
  rw [if_pos hw'] at hr'
  generalize (hd l).pos = at0 at hr hp
  rw [← hp] at hr'
  clear hpos hw hw' hsim hp
  generalize stepL l = a at hr h1
  generalize stepL l' = a' at hr' h1
  unfold kindT at hr hr'
  dsimp only at hr hr'
  split at hr
  case isFalse => cases hr
  rename_i hka
  rcases h1.cases with ⟨rfl, rfl⟩ | g
  · exact absurd (he.symm.trans hka) (by decide)
  rw [if_pos (g.1 ▸ hka), ← g.2.1] at hr'
  have h2 := g.2.2.2.2.2
  clear h1 g hka
  generalize (hd a).text = s at hr hr'
  generalize stepL a = c at hr h2
  generalize stepL a' = c' at hr' h2
  split at hr
  case isFalse => cases hr
  rename_i hsc
  have hsc' : isT tSemi c' = true := by
    rcases h2.cases with ⟨rfl, rfl⟩ | g
    · rw [isT_end (l := [e]) he] at hsc; cases hsc
    · rw [← isT_sim g.1 g.2.1]; exact hsc
  rw [if_pos hsc'] at hr'
  have h3 := h2.next (isT_end (l := [e]) he) hsc
  clear h2 hsc hsc'
  generalize stepL c = d at hr h3
  generalize stepL c' = d' at hr' h3
  cases hi : importsR 100 [] d with
  | error q => rw [hi] at hr; cases hr
  | ok q =>
    obtain ⟨is, f⟩ := q
    rcases imports_sim (x := [e]) he (show isT tImport (moreT p) = false from rfl) 100 [] [] d d' rfl h3 is f hi with ⟨is', f', hi', his, hf⟩ | ⟨h0, -⟩
    · rw [strN_true, strN_true] at his
      subst his
      rw [hi] at hr
      rw [hi'] at hr'
      replace hr : ((letsR 200 is.kids f).then fun ls r => Except.ok (mkN 1 s 0 ls.kids at0, r)) = .ok (n, r) := hr
      replace hr' : ((letsR 200 is.kids f').then fun ls r => Except.ok (mkN 1 s 0 ls.kids at0, r)) = .ok (m, r') := hr'
      cases hl : letsR 200 is.kids f with
      | error q => rw [hl] at hr; cases hr
      | ok q =>
        obtain ⟨ls, v⟩ := q
        rw [hl] at hr
        have hr2 := Prod.mk.inj (Except.ok.inj hr)
        obtain ⟨rfl, rfl⟩ := hr2
        rcases lets_more he p 200 is.kids f f' ls v hf hl hk with ⟨c, q, hx⟩ | ⟨r2, hx⟩
        · rw [hx] at hr'; cases hr'
        · rw [hx] at hr'
          have hr3 := Prod.mk.inj (Except.ok.inj hr')
          exact ⟨s, ls.kids, at0, p, rfl, hr3.1.symm⟩
    · exact absurd h0 (by decide)
end Go.Proofs.YtcndknkdhlmdnaaGreatDoor

/-
  A module that is read is right; what is wrong has a number (no program in sight).
-/
namespace Go.Proofs.YtcndknkdhlmdnaaGreatDoor

theorem bare_mk {k p : Int} {s : List UInt8} (h : nearL s = true) : bareN k (mkN k s 0 [] p) = true := by
  unfold bareN
  show (k == k && nearL s && (0 : Int) == 0 && ([] : List Nd).isEmpty) = true
  rw [h, beq_self_eq_true]; rfl
/-- a thing that is read, with no more nodes than tokens -/
def postL (P : Nd → Prop) (l : List Tk) (t : Nd) (r : List Tk) : Prop := P t ∧ (∀ k ∈ r, GT k) ∧ nodesN t + r.length ≤ l.length
theorem param_post {l : List Tk} (hl : ∀ k ∈ l, GT k) : Post (postL (fun t => bareN 4 t = true) l) (paramR l) := by
  refine Post.kind fun h => ?_
  obtain ⟨L1, g⟩ := (Lt.refl hl).kind h (by decide)
  refine Post.ok ⟨bare_mk (g.name h), L1.1, ?_⟩
  rw [nodes_leaf]; have := L1.2; omega
/-- things that are read behind others -/
def postA (P : Nd → Prop) (f : Nat) (acc : List Nd) (l : List Tk) (t : Nd) (r : List Tk) : Prop := (∃ ks, t.kids = acc ++ ks ∧ (∀ k ∈ ks, P k) ∧ ks.length ≤ f) ∧ (∀ k ∈ r, GT k) ∧ nodesKs t.kids + r.length ≤ nodesKs acc + l.length
theorem list_post {P : Nd → Prop} {rdr : List Tk → Rd} (hr : ∀ l, (∀ k ∈ l, GT k) → Post (postL P l) (rdr l)) : ∀ (f : Nat) (acc : List Nd) (l : List Tk), (∀ k ∈ l, GT k) → Post (postA P f acc l) (listR rdr f acc l)
  | 0, _, _, _ => Post.error (by decide)
  | f + 1, acc, l, hl => by
    refine Post.then (hr l hl) ?_
    rintro t r ⟨gt, hr', nt⟩
    refine Post.ite (fun h => ?_) fun _ => ?_
    · have L1 := (Lt.refl hr').is h
      refine (list_post hr f (acc ++ [t]) (stepL r) L1.1).mono ?_
      rintro u q ⟨⟨ks, e, hk, hf⟩, hq, nu⟩
      refine ⟨⟨t :: ks, by rw [e, List.append_assoc]; rfl, fun k h => ?_, by rw [List.length_cons]; omega⟩, hq, ?_⟩
      · rcases List.mem_cons.1 h with rfl | h
        · exact gt
        · exact hk k h
      · rw [nodesKs_app, nodesKs_one] at nu
        have := L1.2; omega
    · refine Post.want fun h => ?_
      have L1 := (Lt.refl hr').is h
      refine Post.ok ⟨⟨[t], rfl, fun k h => by rw [List.mem_singleton.1 h]; exact gt, by simp⟩, L1.1, ?_⟩
      rw [kids_mk, nodesKs_app, nodesKs_one]
      have := L1.2; omega
theorem params_post {l : List Tk} (hl : ∀ k ∈ l, GT k) : Post (postA (fun t => bareN 4 t = true) 8 [] l) (paramsR l) := by
  refine Post.ite (fun h => ?_) fun _ => ?_
  · have L1 := (Lt.refl hl).is h
    refine (list_post (fun l hl => param_post hl) 8 [] (stepL l) L1.1).mono ?_
    rintro t r ⟨h1, h2, h3⟩
    exact ⟨h1, h2, by have := L1.2; omega⟩
  · exact Post.ok ⟨⟨[], rfl, fun k h => (by cases h), by simp⟩, hl, Nat.le_refl _⟩
theorem last_mk {k n p : Int} {s : List UInt8} (ks : List Nd) (x : Nd) : lastK (mkN k s n (ks ++ [x]) p) = x := by
  unfold lastK
  rw [kids_mk, List.getLastD_eq_getLast?, List.getLast?_append]; rfl
theorem let_post {l : List Tk} (hl : ∀ k ∈ l, GT k) : Post (postL (fun t => letN t = true) l) (letR l) := by
  refine Post.want fun h => ?_
  have L1 := (Lt.refl hl).is h
  refine Post.kind fun h2 => ?_
  obtain ⟨L2, g⟩ := L1.kind h2 (by decide)
  refine Post.then (params_post L2.1) ?_
  rintro ps r ⟨⟨ks, e, hk, hf⟩, hr, np⟩
  rw [List.nil_append] at e
  refine Post.want fun h3 => ?_
  have L3 := (Lt.refl hr).is h3
  refine Post.then (rd_post 0 L3.1) ?_
  rintro x q ⟨gx, hq, nx⟩
  refine Post.want fun h4 => ?_
  have L4 := (Lt.refl hq).is h4
  refine Post.ok ⟨?_, L4.1, ?_⟩
  · show letN (mkN 3 (hd (stepL l)).text 0 (ps.kids ++ [x]) (hd (stepL l)).pos) = true
    rw [letN_eq, e, kids_mk, text_mk, last_mk, List.dropLast_concat, g.name h2, List.length_append, gx.right, List.all_eq_true.2 hk]
    simp only [List.length_singleton, Bool.and_eq_true, decide_eq_true_eq]
    exact ⟨⟨⟨⟨⟨(show ((3 : Int) == 3) = true by decide), trivial⟩, (show ((0 : Int) == 0) = true by decide)⟩, by omega⟩, by omega⟩, trivial, trivial⟩
  · show nodesN (mkN 3 (hd (stepL l)).text 0 (ps.kids ++ [x]) (hd (stepL l)).pos) + (stepL q).length ≤ l.length
    rw [nodes_mk, nodesKs_app, nodesKs_one]
    have := L2.2
    have := L3.2
    have := L4.2
    rw [nodesKs] at np
    omega
theorem imports_post : ∀ (f : Nat) (acc : List Nd) (l : List Tk), (∀ k ∈ l, GT k) → Post (postA (fun t => bareN 2 t = true) f acc l) (importsR f acc l)
  | 0, acc, l, hl => Post.ite (fun _ => Post.error (by decide)) fun _ => Post.ok ⟨⟨[], by rw [List.append_nil]; rfl, fun k h => (by cases h), by simp⟩, hl, Nat.le_refl _⟩
  | f + 1, acc, l, hl => by
    refine Post.ite (fun h => ?_) fun _ => Post.ok ⟨⟨[], by rw [List.append_nil]; rfl, fun k h => (by cases h), by simp⟩, hl, Nat.le_refl _⟩
    have L1 := (Lt.refl hl).is h
    refine Post.kind fun h2 => ?_
    obtain ⟨L2, g⟩ := L1.kind h2 (by decide)
    refine Post.want fun h3 => ?_
    have L3 := L2.is h3
    refine (imports_post f (acc ++ [mkN 2 (hd (stepL l)).text 0 [] (hd (stepL l)).pos]) _ L3.1).mono ?_
    rintro u q ⟨⟨ks, e, hk, hf⟩, hq, nu⟩
    refine ⟨⟨mkN 2 (hd (stepL l)).text 0 [] (hd (stepL l)).pos :: ks, by rw [e, List.append_assoc]; rfl, fun k h => ?_, by rw [List.length_cons]; omega⟩, hq, ?_⟩
    · rcases List.mem_cons.1 h with rfl | h
      · exact bare_mk (g.name h2)
      · exact hk k h
    · rw [nodesKs_app, nodesKs_one, nodes_leaf] at nu
      have := L3.2; omega
theorem lets_post : ∀ (f : Nat) (acc : List Nd) (l : List Tk), (∀ k ∈ l, GT k) → Post (postA (fun t => letN t = true) f acc l) (letsR f acc l)
  | 0, acc, l, hl => Post.ite (fun _ => Post.error (by decide)) fun _ => Post.ok ⟨⟨[], by rw [List.append_nil]; rfl, fun k h => (by cases h), by simp⟩, hl, Nat.le_refl _⟩
  | f + 1, acc, l, hl => by
    refine Post.ite (fun h => ?_) fun _ => Post.ok ⟨⟨[], by rw [List.append_nil]; rfl, fun k h => (by cases h), by simp⟩, hl, Nat.le_refl _⟩
    refine Post.then (let_post hl) ?_
    rintro t r ⟨gt, hr, nt⟩
    refine (lets_post f (acc ++ [t]) r hr).mono ?_
    rintro u q ⟨⟨ks, e, hk, hf⟩, hq, nu⟩
    refine ⟨⟨t :: ks, by rw [e, List.append_assoc]; rfl, fun k h => ?_, by rw [List.length_cons]; omega⟩, hq, ?_⟩
    · rcases List.mem_cons.1 h with rfl | h
      · exact gt
      · exact hk k h
    · rw [nodesKs_app, nodesKs_one] at nu
      omega
theorem imps_app {is ls : List Nd} (hi : ∀ k ∈ is, bareN 2 k = true) (hl : ∀ k ∈ ls, letN k = true) : impsN (is ++ ls) = is.length := by
  unfold impsN
  have h : ∀ (is : List Nd), (∀ k ∈ is, bareN 2 k = true) → ((is ++ ls).takeWhile (bareN 2)).length = is.length := fun is => by
    induction is with
    | nil =>
      intro _
      cases ls with
      | nil => rfl
      | cons k ls =>
        have hk := hl k (List.mem_cons_self ..)
        rw [letN_eq] at hk
        simp only [Bool.and_eq_true, beq_iff_eq] at hk
        have hno : ¬ bareN 2 k = true := by
          intro e
          rw [bareN_eq] at e
          simp only [Bool.and_eq_true, beq_iff_eq] at e
          have h3 := hk.1.1.1.1.1
          have h2 := e.1.1.1
          omega
        rw [List.nil_append, List.takeWhile_cons, if_neg hno]
    | cons k is ih =>
      intro h
      rw [List.cons_append, List.takeWhile_cons, if_pos (h k (List.mem_cons_self ..)), List.length_cons, List.length_cons, ih (fun k hk => h k (List.mem_cons_of_mem _ hk))]
  exact h is hi
/-- a module that is read is right, but for its size, and has no more nodes than tokens -/
theorem mod_post {l : List Tk} (hl : ∀ k ∈ l, GT k) : Post (fun t r => (smallN t = true → modN t = true) ∧ nodesN t + r.length ≤ l.length) (modR l) := by
  refine Post.want fun h => ?_
  have L1 := (Lt.refl hl).is h
  refine Post.kind fun h2 => ?_
  obtain ⟨L2, g⟩ := L1.kind h2 (by decide)
  refine Post.want fun h3 => ?_
  have L3 := L2.is h3
  refine Post.then (imports_post 100 [] _ L3.1) ?_
  rintro is r ⟨⟨ks, e, hk, hf⟩, hr, ni⟩
  rw [List.nil_append] at e
  refine Post.then (lets_post 200 is.kids r hr) ?_
  rintro ls q ⟨⟨us, e2, hu, hf2⟩, hq, nl⟩
  rw [e] at e2
  refine Post.ok ⟨fun hs => ?_, ?_⟩
  · unfold modN
    rw [hs, kids_mk, text_mk, e2, imps_app hk hu, List.drop_left, g.name h2, List.length_append, List.all_eq_true.2 hu]
    simp only [Bool.and_eq_true, decide_eq_true_eq]
    exact ⟨⟨⟨⟨(show ((1 : Int) == 1) = true by decide), trivial⟩, (show ((0 : Int) == 0) = true by decide)⟩, trivial⟩, ⟨hf, by omega⟩, trivial⟩
  · rw [nodes_mk]
    rw [nodesKs] at ni
    have := L3.2
    omega
theorem tok_err {c : UInt8} {r : List UInt8} {p e : Int} (h : tokS c r p = .error e) : e ≠ 0 := by
  unfold tokS namedS numS quotS curS markS at h
  simp only at h
  repeat' (split at h)
  all_goals first | (cases h; done) | (cases h; decide)
theorem scan_err_ne (N : Nat) : ∀ (u : List UInt8), u.length ≤ N → ∀ (p : Int) (k : Nat) (c q : Int), scanS u p k 0 = .error (c, q) → c ≠ 0 := by
  induction N with
  | zero =>
    intro u hu p k c q h
    cases u with
    | nil => cases h
    | cons a r => simp at hu
  | succ N ih =>
    intro u hu p k c q h
    cases u with
    | nil => cases h
    | cons a r =>
      rw [List.length_cons] at hu
      by_cases h32 : a.toNat ≤ 32
      · rw [scan_blank h32] at h
        exact ih r (by omega) _ _ _ _ h
      by_cases h35 : a = 35
      · rw [scan_rem h35] at h
        exact ih _ (by rw [List.length_drop]; omega) _ _ _ _ h
      cases hx : tokS a r p with
      | error e =>
        rw [scan_err h32 h35 hx] at h
        cases h
        exact tok_err hx
      | ok w =>
        obtain ⟨t, n⟩ := w
        have hn := tok_len hx
        by_cases hk : k = 8192
        · rw [scan_many h32 h35 hx hk] at h
          cases h
          decide
        rw [scan_tok h32 h35 hx hk] at h
        cases hs : scanS ((a :: r).drop n) (p + n) (k + 1) 0 with
        | error e =>
          rw [hs] at h
          cases h
          exact ih _ (by rw [List.length_drop, List.length_cons]; omega) _ _ _ _ hs
        | ok l => rw [hs] at h; cases h
theorem scanT_err {u : List UInt8} {c q : Int} (h : scanT u = .error (c, q)) : c ≠ 0 := by
  unfold scanT at h
  split at h
  · cases h; decide
  · exact scan_err_ne _ u (Nat.le_refl _) _ _ _ _ h
end Go.Proofs.YtcndknkdhlmdnaaGreatDoor
