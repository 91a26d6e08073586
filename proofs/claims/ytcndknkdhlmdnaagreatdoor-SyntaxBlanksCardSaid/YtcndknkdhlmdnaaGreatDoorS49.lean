/-
  Complement: what one text more of SynR is rested on.
-/
import Derived.Test.YtcndknkdhlmdnaaGreatDoorS48
namespace Go.Proofs.YtcndknkdhlmdnaaGreatDoor
set_option maxRecDepth 100000

def markL : Nat → List UInt8
  | 0 => [32]
  | 1 => [10, 10]
  | 2 => [35, 32, 120, 10]
  | 3 => [32, 9, 35, 32, 40, 32, 59, 32, 34, 32, 10]
  | _ => []
theorem mark_cases {P : List UInt8 → Prop} (h0 : P [32]) (h1 : P [10, 10]) (h2 : P [35, 32, 120, 10]) (h3 : P [32, 9, 35, 32, 40, 32, 59, 32, 34, 32, 10]) (h4 : P []) : ∀ k, P (markL k)
  | 0 => h0
  | 1 => h1
  | 2 => h2
  | 3 => h3
  | _ + 4 => h4
/-- a mark is passed over -/
theorem mark_scan {w : List UInt8} {ts : List Tk} (k : Nat) : ∀ (q : Int), Scan w (q + (markL k).length) ts → Scan (markL k ++ w) q ts := by
  refine mark_cases (P := fun m => ∀ q : Int, Scan w (q + m.length) ts → Scan (m ++ w) q ts) ?_ ?_ ?_ ?_ ?_ k
  · intro q h; exact .blank (by decide) h
  · intro q h
    refine .blank (by decide) (.blank (by decide) ?_)
    rw [show q + 1 + 1 = q + ((2 : Nat) : Int) by omega]; exact h
  · intro q h
    refine .rem ?_
    show Scan (10 :: w) (q + 1 + ((2 : Nat) : Int)) ts
    refine .blank (by decide) ?_
    rw [show q + 1 + ((2 : Nat) : Int) + 1 = q + ((4 : Nat) : Int) by omega]; exact h
  · intro q h
    refine .blank (by decide) (.blank (by decide) (.rem ?_))
    show Scan (10 :: w) (q + 1 + 1 + 1 + ((7 : Nat) : Int)) ts
    refine .blank (by decide) ?_
    rw [show q + 1 + 1 + 1 + ((7 : Nat) : Int) + 1 = q + ((11 : Nat) : Int) by omega]; exact h
  · intro q h
    rw [show q = q + ((0 : Nat) : Int) by omega]; exact h
def softH (X : List UInt8) : Prop := (X.headD 0).toNat ≤ 32 ∨ X.headD 0 = 35
theorem mark_soft (v : List UInt8) (k : Nat) : softH (markL k ++ 10 :: v) := by
  refine mark_cases (P := fun m => softH (m ++ 10 :: v)) ?_ ?_ ?_ ?_ ?_ k
  · exact .inl (show (32 : UInt8).toNat ≤ 32 by decide)
  · exact .inl (show (10 : UInt8).toNat ≤ 32 by decide)
  · exact .inr rfl
  · exact .inl (show (32 : UInt8).toNat ≤ 32 by decide)
  · exact .inl (show (10 : UInt8).toNat ≤ 32 by decide)
theorem mark_soft' (v : List UInt8) (k : Nat) : markL k = [] ∨ softH (markL k ++ v) := by
  refine mark_cases (P := fun m => m = [] ∨ softH (m ++ v)) ?_ ?_ ?_ ?_ (.inl rfl) k
  · exact .inr (.inl (show (32 : UInt8).toNat ≤ 32 by decide))
  · exact .inr (.inl (show (10 : UInt8).toNat ≤ 32 by decide))
  · exact .inr (.inr rfl)
  · exact .inr (.inl (show (32 : UInt8).toNat ≤ 32 by decide))
/-- a mark, and a line's end, behind a remark -/
theorem mark_tail (v : List UInt8) {V : Int → List Tk} (hv : ∀ q, Scan (10 :: v) q (V q)) (k : Nat) : ∀ q : Int, ∃ q', Scan ((markL k ++ 10 :: v).drop (remR (markL k ++ 10 :: v))) q (V q') := by
  refine mark_cases (P := fun m => ∀ q : Int, ∃ q', Scan ((m ++ 10 :: v).drop (remR (m ++ 10 :: v))) q (V q')) ?_ ?_ ?_ ?_ ?_ k
  · intro q; exact ⟨_, hv q⟩
  · intro q; exact ⟨_, .blank (by decide) (.blank (by decide) (hv _))⟩
  · intro q; exact ⟨_, .blank (by decide) (hv _)⟩
  · intro q; exact ⟨_, .blank (by decide) (hv _)⟩
  · intro q; exact ⟨_, hv q⟩
theorem tw_app {p : UInt8 → Bool} : ∀ (b w : List UInt8), (∀ x ∈ b, p x = true) → ((b ++ w).takeWhile p).length = b.length + (w.takeWhile p).length
  | [], w, _ => by simp
  | c :: b, w, h => by
    rw [List.cons_append, List.takeWhile_cons, h c List.mem_cons_self, if_pos rfl, List.length_cons, tw_app b w (fun x hx => h x (List.mem_cons_of_mem _ hx)), List.length_cons]
    omega
theorem tw_mem {p : UInt8 → Bool} : ∀ (r : List UInt8), ∀ x ∈ r.take (r.takeWhile p).length, p x = true
  | [], x, h => by simp at h
  | c :: r, x, h => by
    rw [List.takeWhile_cons] at h
    cases hp : p c with
    | false => rw [hp] at h; simp at h
    | true =>
      rw [hp, if_pos rfl, List.length_cons, List.take_succ_cons, List.mem_cons] at h
      rcases h with rfl | h
      · exact hp
      · exact tw_mem r x h
/-- where the next token stands -/
def nextP (s : List UInt8) : List Tk → Nat
  | [] => s.length
  | t :: _ => t.pos.toNat
/-- the tokens from one on, each with a mark ahead and what stood behind it -/
def bl (s : List UInt8) (mk : Nat → Nat) : Nat → List Tk → List UInt8
  | _, [] => []
  | i, t :: r => markL (mk i) ++ ((s.drop t.pos.toNat).take (nextP s r - t.pos.toNat) ++ bl s mk (i + 1) r)
def tailB : List UInt8 := [10, 41]
def tailT (q : Int) : List Tk := [⟨8, [41], 0, q⟩, ⟨0, [], 0, q + 1⟩]
theorem tail_scan (q : Int) : Scan (10 :: [41]) q (tailT (q + 1)) := .blank (by decide) (.tok (n := 1) (by decide) (by decide) rfl (.fin _))
/-- what a text's new text is from a place on -/
def newB (s : List UInt8) (mk : Nat → Nat) (p i : Nat) (l : List Tk) : List UInt8 := (s.drop p).take (nextP s l - p) ++ (bl s mk i l ++ tailB)
theorem soft_ok {u X : List UInt8} (h : softH X) : hdOk u X ∧ Pat u X := ⟨.inr h, pat_of_soft h⟩
theorem rem_stop : ∀ l : List UInt8, l.drop (remR l) = [] ∨ (l.drop (remR l)).headD 0 = 10
  | [] => .inl rfl
  | b :: l => by
    unfold remR
    rw [List.takeWhile_cons]
    cases hb : (b != 10) with
    | false => exact .inr (by simpa using hb)
    | true => exact rem_stop l
/-- from a place on, a text made anew has the same tokens, and the tail's -/
def Anew (ts : List Tk) (X : List UInt8) : Prop := ∀ q' : Int, ∃ ts' e', Scan X q' (ts' ++ tailT e') ∧ ts.map (strT false) = ts'.map (strT false)
theorem bl_scan (s : List UInt8) (mk : Nat → Nat) {u : List UInt8} {q : Int} {l : List Tk} (h : Scan u q l) : ∀ (p i : Nat), q = p → s.drop p = u → p ≤ s.length →
    p ≤ nextP s l ∧ nextP s l ≤ s.length ∧ hdOk u (newB s mk p i l) ∧ Pat u (newB s mk p i l) ∧ ∃ ts e, l = ts ++ [e] ∧ e.kind = 0 ∧ (∀ k ∈ ts, k.kind ≠ 0) ∧ Anew ts (newB s mk p i l) ∧
      (u = [] ∨ u.headD 0 = 10 → Anew ts ((newB s mk p i l).drop (remR (newB s mk p i l)))) := by
  induction h with
  | fin p0 =>
    rintro p i rfl hu hp
    have hl : s.length = p := by
      have := congrArg List.length hu
      rw [List.length_drop] at this
      simp at this
      omega
    have e : newB s mk p i [⟨0, [], 0, (p : Int)⟩] = markL (mk i) ++ 10 :: [41] := by
      unfold newB bl bl nextP tailB
      simp [hu]
    have hn : nextP s [⟨0, [], 0, (p : Int)⟩] = p := rfl
    rw [e, hn]
    obtain ⟨h1, h2⟩ := soft_ok (u := []) (mark_soft [41] (mk i))
    refine ⟨Nat.le_refl _, hp, h1, h2, [], _, rfl, rfl, fun k hk => (by cases hk), fun q' => ⟨[], _, mark_scan (mk i) q' (tail_scan _), rfl⟩, fun _ q' => ?_⟩
    obtain ⟨e', h⟩ := mark_tail [41] (V := fun q => tailT (q + 1)) tail_scan (mk i) q'
    exact ⟨[], _, h, rfl⟩
  | @blank c r p0 l hc hl ih =>
    rintro p i rfl hu hp
    have hlt : p < s.length := by
      have := congrArg List.length hu
      rw [List.length_drop, List.length_cons] at this
      omega
    have hr : s.drop (p + 1) = r := by rw [← List.drop_drop, hu]; rfl
    obtain ⟨a1, a2, -, -, ts, e, rfl, he, hts, hS, -⟩ := ih (p + 1) i (by omega) hr hlt
    have en : newB s mk p i (ts ++ [e]) = c :: newB s mk (p + 1) i (ts ++ [e]) := by
      unfold newB
      rw [hu, hr, show nextP s (ts ++ [e]) - p = (nextP s (ts ++ [e]) - (p + 1)) + 1 by omega, List.take_succ_cons]
      rfl
    rw [en]
    obtain ⟨h1, h2⟩ := soft_ok (u := c :: r) (X := c :: newB s mk (p + 1) i (ts ++ [e])) (.inl hc)
    have hA : Anew ts (c :: newB s mk (p + 1) i (ts ++ [e])) := fun q' => by
      obtain ⟨ts', e', hs, hm⟩ := hS (q' + 1)
      exact ⟨ts', e', .blank hc hs, hm⟩
    refine ⟨by omega, a2, h1, h2, ts, e, rfl, he, hts, hA, fun h10 => ?_⟩
    rcases h10 with h10 | h10
    · cases h10
    · obtain rfl : c = 10 := h10
      exact hA
  | @rem r p0 l hl ih =>
    rintro p i rfl hu hp
    have hlen : s.length = p + (r.length + 1) := by
      have := congrArg List.length hu
      rw [List.length_drop, List.length_cons] at this
      omega
    have hle : remR r ≤ r.length := takeWhile_le (· != 10) r
    have hr : s.drop (p + 1 + remR r) = r.drop (remR r) := by
      rw [show p + 1 + remR r = p + (1 + remR r) by omega, ← List.drop_drop, hu, Nat.add_comm, List.drop_succ_cons]
    obtain ⟨a1, a2, -, -, ts, e, rfl, he, hts, -, hS⟩ := ih (p + 1 + remR r) i (by omega) hr (by omega)
    replace hS := hS (rem_stop r)
    have en : newB s mk p i (ts ++ [e]) = 35 :: (r.take (remR r) ++ newB s mk (p + 1 + remR r) i (ts ++ [e])) := by
      unfold newB
      rw [hu, hr, show nextP s (ts ++ [e]) - p = (remR r + (nextP s (ts ++ [e]) - (p + 1 + remR r))) + 1 by omega, List.take_succ_cons, List.take_add, List.cons_append, List.append_assoc]
    obtain ⟨h1, h2⟩ := soft_ok (u := 35 :: r) (X := 35 :: (r.take (remR r) ++ newB s mk (p + 1 + remR r) i (ts ++ [e]))) (.inr rfl)
    rw [en]
    refine ⟨by omega, a2, h1, h2, ts, e, rfl, he, hts, fun q' => ?_, fun h10 => ?_⟩
    · have hb : ∀ w, remR (r.take (remR r) ++ w) = remR r + remR w := fun w => by
        have := tw_app (r.take (remR r)) w (fun x hx => tw_mem (p := (· != 10)) r x hx)
        rw [List.length_take, Nat.min_eq_left hle] at this
        exact this
      have hd : ∀ w, (r.take (remR r) ++ w).drop (remR r + remR w) = w.drop (remR w) := fun w => by
        have hl : (r.take (remR r)).length = remR r := by rw [List.length_take]; omega
        rw [← List.drop_drop, List.drop_left' hl]
      obtain ⟨ts', e', hs, hm⟩ := hS (q' + 1 + (remR (r.take (remR r) ++ newB s mk (p + 1 + remR r) i (ts ++ [e])) : Nat))
      refine ⟨ts', e', .rem ?_, hm⟩
      rw [hb] at hs ⊢
      rw [hd]
      exact hs
    · rcases h10 with h10 | h10
      · cases h10
      · exact absurd (show (35 : UInt8) = 10 from h10) (by decide)
  | @tok c r p0 t n l hc hc' ht hl ih =>
    rintro p i rfl hu hp
    have htl := tok_len ht
    have hpos := tok_pos ht
    have hlen : s.length = p + (r.length + 1) := by
      have := congrArg List.length hu
      rw [List.length_drop, List.length_cons] at this
      omega
    have hr : s.drop (p + n) = (c :: r).drop n := by rw [← List.drop_drop, hu]
    obtain ⟨a1, a2, b1, b2, ts, e, rfl, he, hts, hS, -⟩ := ih (p + n) (i + 1) (by omega) hr (by omega)
    have hlast := tok_last ht
    have hk := tok_kind ht
    obtain ⟨m, rfl⟩ : ∃ m, n = m + 1 := ⟨n - 1, by omega⟩
    have hn : nextP s (t :: (ts ++ [e])) = p := by show t.pos.toNat = p; rw [hpos]; rfl
    have en : newB s mk p i (t :: (ts ++ [e])) = markL (mk i) ++ ((c :: r).take (m + 1) ++ newB s mk (p + (m + 1)) (i + 1) (ts ++ [e])) := by
      unfold newB
      rw [hn, Nat.sub_self, List.take_zero, List.nil_append, bl, show t.pos.toNat = p by rw [hpos]; rfl, hu, hr, show nextP s (ts ++ [e]) - p = (m + 1) + (nextP s (ts ++ [e]) - (p + (m + 1))) by omega, List.take_add]
      simp only [List.append_assoc]
    have eX : ∀ X : List UInt8, (c :: r).take (m + 1) ++ X = c :: (r.take m ++ X) := fun X => rfl
    have hP : Pat (c :: r) ((c :: r).take (m + 1) ++ newB s mk (p + (m + 1)) (i + 1) (ts ++ [e])) := by
      have := pat_app ((c :: r).take (m + 1)) (List.cons_ne_nil _ _) b2 hlast
      rwa [List.take_append_drop] at this
    have hA : Anew (t :: ts) ((c :: r).take (m + 1) ++ newB s mk (p + (m + 1)) (i + 1) (ts ++ [e])) := fun q' => by
      rw [eX]
      have hlt : (r.take m).length = m := by rw [List.length_take]; omega
      have ed : (r.take m ++ newB s mk (p + (m + 1)) (i + 1) (ts ++ [e])).drop m = newB s mk (p + (m + 1)) (i + 1) (ts ++ [e]) := by
        rw [List.drop_append_of_le_length (by omega), List.drop_eq_nil_of_le (by omega)]; rfl
      obtain ⟨ts', e', hs, hm⟩ := hS (q' + (m + 1 : Nat))
      have ht' := tok_ctx (r' := r.take m ++ newB s mk (p + (m + 1)) (i + 1) (ts ++ [e])) ht (by
        rw [Nat.add_sub_cancel, List.take_append_of_le_length (by omega), List.take_take, Nat.min_self]) (by
        rw [Nat.add_sub_cancel, ed]; exact b1) (pat_date (eX _ ▸ hP)) q'
      refine ⟨⟨t.kind, t.text, t.n, q'⟩ :: ts', e', .tok hc hc' ht' ?_, ?_⟩
      · rw [List.drop_succ_cons, ed]; exact hs
      · rw [List.map_cons, List.map_cons, hm]; rfl
    rw [en, hn]
    have hC : hdOk (c :: r) (markL (mk i) ++ ((c :: r).take (m + 1) ++ newB s mk (p + (m + 1)) (i + 1) (ts ++ [e]))) ∧ Pat (c :: r) (markL (mk i) ++ ((c :: r).take (m + 1) ++ newB s mk (p + (m + 1)) (i + 1) (ts ++ [e]))) := by
      rcases mark_soft' ((c :: r).take (m + 1) ++ newB s mk (p + (m + 1)) (i + 1) (ts ++ [e])) (mk i) with h0 | h0
      · rw [h0, List.nil_append]
        exact ⟨.inl rfl, hP⟩
      · exact soft_ok h0
    refine ⟨Nat.le_refl _, hp, hC.1, hC.2, t :: ts, e, rfl, he, fun k hk' => ?_, fun q' => ?_, fun h10 => ?_⟩
    · rcases List.mem_cons.1 hk' with rfl | hk'
      · exact hk
      · exact hts k hk'
    · obtain ⟨ts', e', hs, hm⟩ := hA (q' + (markL (mk i)).length)
      exact ⟨ts', e', mark_scan (mk i) q' hs, hm⟩
    · rcases h10 with h10 | h10
      · cases h10
      · exact absurd (show c.toNat ≤ 32 by rw [show c = 10 from h10]; decide) hc
/-- the whole text made anew -/
def anewB (s : List UInt8) (mk : Nat → Nat) (l : List Tk) : List UInt8 := 40 :: (bl s mk 0 l ++ tailB)
theorem shut_stop (q : Int) (l : List Tk) : Stop (⟨8, [41], 0, q⟩ :: l) := by
  refine ⟨⟨show (8 : Int) ≠ 6 by decide, show (8 : Int) ≠ 5 by decide, show (8 : Int) ≠ 4 by decide, show (8 : Int) ≠ 1 by decide, show (8 : Int) ≠ 3 by decide⟩, fun w hw => ?_⟩
  rw [isT_cons]
  rw [show (([41] : List UInt8) == w) = false from (show ∀ w ∈ peekT, (([41] : List UInt8) == w) = false by decide) w hw, Bool.and_false]
theorem first_bl (s : List UInt8) (mk : Nat → Nat) {l : List Tk} {u : List UInt8} {q : Int} (h : Scan u q l) : ∀ p : Nat, q = p → s.drop p = u → p ≤ s.length → ∃ (u' : List UInt8) (f : Nat), Scan u' f l ∧ s.drop f = u' ∧ f ≤ s.length ∧ newB s mk f 0 l = bl s mk 0 l ++ tailB := by
  induction h with
  | fin p0 =>
    rintro p rfl hu hp
    refine ⟨[], p, .fin _, hu, hp, ?_⟩
    unfold newB
    rw [hu]; simp
  | @blank c r p0 l hc hl ih =>
    rintro p rfl hu hp
    have : p < s.length := by
      have := congrArg List.length hu
      rw [List.length_drop, List.length_cons] at this
      omega
    exact ih (p + 1) (by omega) (by rw [← List.drop_drop, hu]; rfl) this
  | @rem r p0 l hl ih =>
    rintro p rfl hu hp
    have hlen : s.length = p + (r.length + 1) := by
      have := congrArg List.length hu
      rw [List.length_drop, List.length_cons] at this
      omega
    have hle : remR r ≤ r.length := takeWhile_le (· != 10) r
    exact ih (p + 1 + remR r) (by omega) (by rw [show p + 1 + remR r = p + (1 + remR r) by omega, ← List.drop_drop, hu, Nat.add_comm, List.drop_succ_cons]) (by omega)
  | @tok c r p0 t n l hc hc' ht hl ih =>
    rintro p rfl hu hp
    refine ⟨c :: r, p, .tok hc hc' ht hl, hu, hp, ?_⟩
    unfold newB
    rw [show nextP s (t :: l) = p by show t.pos.toNat = p; rw [tok_pos ht]; rfl, Nat.sub_self, List.take_zero, List.nil_append]
theorem open_scan {X : List UInt8} {l : List Tk} (h : Scan X 1 l) : Scan (40 :: X) 0 (⟨8, [40], 0, 0⟩ :: l) := by
  refine .tok (n := 1) (by decide) (by decide) (t := ⟨8, [40], 0, 0⟩) ?_ h
  cases X <;> rfl
/-- what is read of a text is read of the text made anew, but for places; or that is nested too deep -/
theorem blanks_law {u : List UInt8} {t : Nd} {l : List Tk} (mk : Nat → Nat) (hs : scanT u = .ok l) (h : RdOk (rd .expr 0) u t) (h1 : (anewB u mk l).length ≤ 16384) (h2 : l.length ≤ 8188) :
    (∃ v, RdOk (rd .expr 0) (anewB u mk l) v ∧ sameN t v = true) ∨ ∃ ts p, scanT (anewB u mk l) = .ok ts ∧ rd .expr 0 ts = .error (75, p) := by
  obtain ⟨l', r, hs', hr, hk⟩ := h
  obtain rfl : l = l' := Except.ok.inj (hs.symm.trans hs')
  obtain ⟨hS, -, -⟩ := scanT_of hs
  obtain ⟨u', f, hS', hu', hf, hb⟩ := first_bl u mk hS 0 rfl rfl (Nat.zero_le _)
  obtain ⟨-, -, -, -, ts, e, rfl, he, hts, hA, -⟩ := bl_scan u mk hS' f 0 rfl hu' hf
  rw [hb] at hA
  obtain ⟨ts', e', hA', hm⟩ := hA 1
  have hsc := open_scan hA'
  have hlen : ts.length = ts'.length := by have := congrArg List.length hm; rwa [List.length_map, List.length_map] at this
  have hT : scanT (anewB u mk (ts ++ [e])) = .ok (⟨8, [40], 0, 0⟩ :: (ts' ++ tailT e')) := hsc.text h1 (by
    rw [List.length_cons, List.length_append, ← hlen]
    rw [List.length_append] at h2
    show ts.length + 2 + 1 ≤ 8193
    omega)
  have hsim : SimL false [e] (tailT e') (ts ++ [e]) (ts' ++ tailT e') := ⟨ts, ts', rfl, rfl, hm, hts⟩
  have hR := rd_sim (d := 1) (haltE (l := [e]) he) (shut_stop e' _) ⟨isT_end he, isT_end he, isT_end he, by show e.kind ≠ 7; rw [he]; decide⟩ 0 .expr hsim t r hr
  have ha := atom_openK 1 0 (ts' ++ tailT e')
  rcases hR with ⟨v, q, hx, hst, hq⟩ | ⟨-, p, hx⟩
  · obtain ⟨-, rfl⟩ := hq.done hk
    rw [show (0 + 1 : Nat) = 1 from rfl] at hx
    rw [hx] at ha
    have hb : rd .atom (0 + 1) (⟨8, [40], 0, 0⟩ :: (ts' ++ tailT e')) = .ok (v, [⟨0, [], 0, e' + 1⟩]) := ha
    exact .inl ⟨v, ⟨_, _, hT, climb_ok (by rfl) (by rfl) (by rfl) (by decide) hb (stop_fin _), rfl⟩, (same_str t v).2 hst⟩
  · rw [show (0 + 1 : Nat) = 1 from rfl] at hx
    rw [hx] at ha
    exact .inr ⟨_, p, hT, climb_err (by rfl) (by rfl) (by rfl) (by decide) ha⟩
/-- the tokens stand in order, within the text -/
def Steps (s : List UInt8) : List Tk → Prop
  | [] => True
  | t :: r => 0 ≤ t.pos ∧ t.pos.toNat ≤ nextP s r ∧ nextP s r ≤ s.length ∧ Steps s r
theorem scan_steps (s : List UInt8) {u : List UInt8} {q : Int} {l : List Tk} (h : Scan u q l) : ∀ p : Nat, q = p → s.drop p = u → p ≤ s.length → Steps s l := by
  induction h with
  | fin p0 =>
    rintro p rfl hu hp
    refine ⟨by show (0 : Int) ≤ p; omega, ?_, Nat.le_refl _, trivial⟩
    exact hp
  | @blank c r p0 l hc hl ih =>
    rintro p rfl hu hp
    have : p < s.length := by
      have := congrArg List.length hu
      rw [List.length_drop, List.length_cons] at this
      omega
    exact ih (p + 1) (by omega) (by rw [← List.drop_drop, hu]; rfl) this
  | @rem r p0 l hl ih =>
    rintro p rfl hu hp
    have hlen : s.length = p + (r.length + 1) := by
      have := congrArg List.length hu
      rw [List.length_drop, List.length_cons] at this
      omega
    have hle : remR r ≤ r.length := takeWhile_le (· != 10) r
    exact ih (p + 1 + remR r) (by omega) (by rw [show p + 1 + remR r = p + (1 + remR r) by omega, ← List.drop_drop, hu, Nat.add_comm, List.drop_succ_cons]) (by omega)
  | @tok c r p0 t n l hc hc' ht hl ih =>
    rintro p rfl hu hp
    have htl := tok_len ht
    have hlen : s.length = p + (r.length + 1) := by
      have := congrArg List.length hu
      rw [List.length_drop, List.length_cons] at this
      omega
    have hr : s.drop (p + n) = (c :: r).drop n := by rw [← List.drop_drop, hu]
    obtain ⟨a1, a2, -⟩ := bl_scan s (fun _ => 0) hl (p + n) 0 (by omega) hr (by omega)
    exact ⟨by rw [tok_pos ht]; omega, by rw [tok_pos ht]; show p ≤ _; omega, a2, ih (p + n) (by omega) hr (by omega)⟩
theorem steps_at {s : List UInt8} : ∀ {l : List Tk}, Steps s l → ∀ (j : Nat) (hj : j < l.length), 0 ≤ l[j].pos ∧ l[j].pos.toNat ≤ nextP s (l.drop (j + 1)) ∧ nextP s (l.drop (j + 1)) ≤ s.length
  | _ :: _, ⟨h1, h2, h3, _⟩, 0, _ => ⟨h1, h2, h3⟩
  | _ :: l, ⟨_, _, _, h⟩, j + 1, hj => steps_at h j (by simpa using hj)
theorem steps_get {s : List UInt8} {l : List Tk} (h : Steps s l) (j : Nat) (hj : j < l.length) : ∃ a b : Nat, l[j].pos = a ∧ nextP s (l.drop (j + 1)) = b ∧ a ≤ b ∧ b ≤ s.length ∧ (∀ h' : j + 1 < l.length, l[j + 1].pos = b) ∧ (¬ j + 1 < l.length → b = s.length) := by
  obtain ⟨h1, h2, h3⟩ := steps_at h j hj
  refine ⟨l[j].pos.toNat, _, by omega, rfl, h2, h3, fun h' => ?_, fun h' => ?_⟩
  · obtain ⟨g1, -, -⟩ := steps_at h (j + 1) h'
    rw [List.drop_eq_getElem_cons h']
    show l[j + 1].pos = ((l[j + 1].pos.toNat : Nat) : Int)
    omega
  · rw [List.drop_eq_nil_of_le (by omega)]; rfl
theorem bl_step (s : List UInt8) (mk : Nat → Nat) (l : List Tk) (j : Nat) (hj : j < l.length) : bl s mk j (l.drop j) = markL (mk j) ++ ((s.drop l[j].pos.toNat).take (nextP s (l.drop (j + 1)) - l[j].pos.toNat) ++ bl s mk (j + 1) (l.drop (j + 1))) := by
  rw [List.drop_eq_getElem_cons hj, bl]
end Go.Proofs.YtcndknkdhlmdnaaGreatDoor
