/-
  Texts that the statements' proofs rest on, one behind another: SxA, ParE, ParG, ParH, ParI, ParJ, ParK, ParL, ParM, ParN, ParO, ParP, SxB.
-/
import Derived.Test.YtcndknkdhlmdnaaGreatDoorS09
import Derived.WalkLawsBesides
import Derived.Test.YtcndknkdhlmdnaaGreatDoorS05
import Derived.Deep.Cut
import Derived.Deep.AppendLies

/-
  The program's parser: what it holds in memory; the token that stands next; what is wrong.
-/
namespace Go.Proofs.YtcndknkdhlmdnaaGreatDoor
open Go.RowKit
set_option maxRecDepth 100000

/-- the parser's cells, and the tokens -/
structure PQ (P g cap : Nat) (ts : List Tk) (a : Nat) (n : Int) (W : World) : Prop where
  at' : W.heap[P]? = some (.cells #[.slice (some ⟨g, a * 4, none⟩) (ts.length - a) (cap - a), .int .i64 n] 94 (0, 0))
  toks : Toks W g 0 ts
  ne : g ≠ P
  lt : g < W.heap.size
  le : ts.length ≤ cap
  max : cap ≤ maxLen
  pos : a < ts.length
section
variable {P g cap : Nat} {ts : List Tk} {a : Nat} {n : Int} {W W' : World}
theorem PQ.cells (h : PQ P g cap ts a n W) : (W.cell? ⟨P, 0, none⟩ = some (.slice (some ⟨g, a * 4, none⟩) (ts.length - a) (cap - a)) ∧ W.cell? ⟨P, 1, none⟩ = some (.int .i64 n)) ∧ (W.frozen? ⟨P, 0, none⟩ = false ∧ W.frozen? ⟨P, 1, none⟩ = false) := by
  have h' := h.at'
  refine ⟨⟨?_, ?_⟩, ?_, ?_⟩ <;> simp [World.cell?, World.frozen?, h']
theorem PQ.plt (h : PQ P g cap ts a n W) : P < W.heap.size := (Array.getElem?_eq_some_iff.1 h.at').1
theorem PQ.keeps (h : PQ P g cap ts a n W) (hk : KeepsV (fun b => b = P ∨ b = g) W W') (hs : W.heap.size ≤ W'.heap.size) : PQ P g cap ts a n W' := by
  refine ⟨(hk P (.inl rfl)).trans h.at', fun j hj => ?_, h.ne, Nat.lt_of_lt_of_le h.lt hs, h.le, h.max, h.pos⟩
  have q : ∀ o, W'.cell? ⟨g, o, none⟩ = W.cell? ⟨g, o, none⟩ := fun o => World.cell?_of_block (hk g (.inr rfl))
  obtain ⟨h0, h1, h2, h3⟩ := h.toks j hj
  exact ⟨(q _).trans h0, (q _).trans h1, (q _).trans h2, (q _).trans h3⟩
theorem PQ.later {B : Nat} (h : PQ P g cap ts a n W) (hb : Below B W W') (hp : P < B) (hg : g < B) : PQ P g cap ts a n W' :=
  ⟨(hb.block P hp).trans h.at', h.toks.below hb hg, h.ne, Nat.lt_of_lt_of_le h.lt hb.size, h.le, h.max, h.pos⟩
theorem PQ.below (h : PQ P g cap ts a n W) (hb : Below W.heap.size W W') : PQ P g cap ts a n W' := h.later hb h.plt h.lt
theorem PQ.tok (h : PQ P g cap ts a n W) : W.cell? ⟨g, a * 4, none⟩ = some (.int .i64 (ts[a]'h.pos).kind) ∧ W.cell? ⟨g, a * 4 + 1, none⟩ = some (.string ⟨(ts[a]'h.pos).text.toArray⟩) ∧ W.cell? ⟨g, a * 4 + 2, none⟩ = some (.int .i64 (ts[a]'h.pos).n) ∧ W.cell? ⟨g, a * 4 + 3, none⟩ = some (.int .i64 (ts[a]'h.pos).pos) := by
  have := h.toks a h.pos
  rw [Nat.zero_add] at this
  exact this
theorem PQ.kept (h : PQ P g cap ts a n W) (i : Nat) (v : Value) {a' : Nat} {n' : Int} (hp : a' < ts.length) (hat : (W.setCell ⟨P, i, none⟩ v).heap[P]? = some (.cells #[.slice (some ⟨g, a' * 4, none⟩) (ts.length - a') (cap - a'), .int .i64 n'] 94 (0, 0))) :
    PQ P g cap ts a' n' (W.setCell ⟨P, i, none⟩ v) := by
  refine ⟨hat, fun j hj => ?_, h.ne, by simp [World.setCell]; exact h.lt, h.le, h.max, hp⟩
  have q : ∀ o, (W.setCell ⟨P, i, none⟩ v).cell? ⟨g, o, none⟩ = W.cell? ⟨g, o, none⟩ := fun o => World.cell?_of_block (Below.heap_setCell _ _ _ _ (fun e => h.ne (by simp at e; exact e)))
  obtain ⟨h0, h1, h2, h3⟩ := h.toks j hj
  exact ⟨(q _).trans h0, (q _).trans h1, (q _).trans h2, (q _).trans h3⟩
theorem PQ.set_l (h : PQ P g cap ts a n W) {a' : Nat} (hp : a' < ts.length) : PQ P g cap ts a' n (W.setCell ⟨P, 0, none⟩ (.slice (some ⟨g, a' * 4, none⟩) (ts.length - a') (cap - a'))) :=
  h.kept 0 _ hp (by simp [World.setCell, Array.getElem?_modify, h.at'])
theorem PQ.set_nest (h : PQ P g cap ts a n W) (n' : Int) : PQ P g cap ts a n' (W.setCell ⟨P, 1, none⟩ (.int .i64 n')) :=
  h.kept 1 _ h.pos (by simp [World.setCell, Array.getElem?_modify, h.at'])
end
/-- where the parser stands: what is left of the tokens -/
def SQ (P g cap : Nat) (ts : List Tk) (nest : Nat) (l : List Tk) (W : World) : Prop := ∃ a, l = ts.drop a ∧ PQ P g cap ts a nest W
/-- what is wrong, and where -/
def flt (k p : Int) : Ending := .panicked [{ v := .iface 92 (.agg #[.int .i64 p, .int .i64 k]), recovered := false }]
set_option maxHeartbeats 2000000 in
theorem qfail_any (P : Nat) (k p : Int) (w : World) :
    Calls Tryz.prog 79 #[.pointer (some ⟨P, 0, none⟩), .int .i64 p, .int .i64 k] w fun e w' => e = flt k p ∧ w = w' := by
  go_enter Tryz.func79, Tryz.ntmps79
  go_wp2_with fail
  exact ⟨rfl, rfl, rfl⟩
set_option maxHeartbeats 2000000 in
theorem qis_any (P g cap : Nat) (ts : List Tk) (a : Nat) (n : Int) (x : ByteArray) (w : World) (h : PQ P g cap ts a n w) :
    Calls Tryz.prog 82 #[.pointer (some ⟨P, 0, none⟩), .string x] w fun e w' => e = .returned (.bool (isT x.data.toList (ts.drop a))) ∧ Below w.heap.size w w' := by
  have I := Lib.hid (isT_at h.pos x.data.toList)
  have hpos := h.pos
  have hmx := h.max
  have hle := h.le
  unfold maxLen at hmx
  obtain ⟨⟨p0, p1⟩, -⟩ := h.cells
  obtain ⟨t0, t1, t2, t3⟩ := h.tok
  have hL : 0 < ts.length - a := by omega
  generalize hT : ts[a]'hpos = T at t0 t1 t2 t3 I
  generalize ts.length - a = L at p0 hL
  generalize cap - a = C at p0
  generalize a * 4 = off at p0 t0 t1 t2 t3
  clear hT h hmx hle
  go_enter Tryz.func82, Tryz.ntmps82
  go_wp2_with fail
  all_goals
    go_ret
    refine ⟨nretB ?_, nbelow1 _ _⟩
    rw [I.out]
    simp [Lib.toList_data, *]
theorem qbelow2 (w : World) (o o' : Obj) : Below w.heap.size w ((w.alloc o).alloc o') := (nbelow1 w o).alloc (nbelow1 w o).size o'
/-- a fresh token's place -/
def QZero (b : Nat) (w : World) : Prop := w.heap[b]? = some (.cells #[.int .i64 0, .string ⟨#[]⟩, .int .i64 0, .int .i64 0] 96 (0, 0))
theorem QZero.make (w : World) : QZero w.heap.size (w.alloc (.cells #[.int .i64 0, .string ⟨#[]⟩, .int .i64 0, .int .i64 0] 96)) := by
  show (w.heap.push _)[w.heap.size]? = _; simp
theorem QZero.cells {b : Nat} {w : World} (h : QZero b w) : w.cell? ⟨b, 0, none⟩ = some (.int .i64 0) ∧ w.cell? ⟨b, 1, none⟩ = some (.string ⟨#[]⟩) ∧ w.cell? ⟨b, 2, none⟩ = some (.int .i64 0) ∧ w.cell? ⟨b, 3, none⟩ = some (.int .i64 0) ∧
    w.frozen? ⟨b, 0, none⟩ = false ∧ w.frozen? ⟨b, 1, none⟩ = false ∧ w.frozen? ⟨b, 2, none⟩ = false ∧ w.frozen? ⟨b, 3, none⟩ = false := by
  have h' : w.heap[b]? = some (.cells #[.int .i64 0, .string ⟨#[]⟩, .int .i64 0, .int .i64 0] 96 (0, 0)) := h
  refine ⟨?_, ?_, ?_, ?_, ?_, ?_, ?_, ?_⟩ <;> simp [World.cell?, World.frozen?, h']
/-- what a step does -/
def StepQ (P g cap : Nat) (ts : List Tk) (a : Nat) (n : Int) (w : World) (e : Ending) (w' : World) : Prop :=
  ∃ a', (∃ h : a < ts.length, e = .returned (tkV ts[a])) ∧ PQ P g cap ts a' n w' ∧ stepL (ts.drop a) = ts.drop a' ∧ w.grownBy w' (some P) ∧ a ≤ a'
set_option maxHeartbeats 2000000 in
theorem qstep_any (P g cap : Nat) (ts : List Tk) (a : Nat) (n : Int) (w : World) (h : PQ P g cap ts a n w) (he : Ends ts) :
    Calls Tryz.prog 84 #[.pointer (some ⟨P, 0, none⟩)] w (StepQ P g cap ts a n w) := by
  have hpos := h.pos
  have hmx := h.max
  have hle := h.le
  unfold maxLen at hmx
  have hPlt := h.plt
  have hg0 := h.lt
  have HN := Lib.hid (he a hpos)
  obtain ⟨⟨p0, p1⟩, ⟨g0, g1⟩⟩ := h.cells
  obtain ⟨t0, t1, t2, t3⟩ := h.tok
  have HH := Lib.hid h
  have K1 := Lib.hid (fun hk => stepL_drop (ts := ts) hpos hk)
  have K0 := Lib.hid (fun hk => stepL_end (ts := ts) hpos hk)
  have HE := Lib.hid (show ∃ h : a < ts.length, Ending.returned (tkV (ts[a]'hpos)) = .returned (tkV ts[a]) from ⟨hpos, rfl⟩)
  have hL : 0 < ts.length - a := by omega
  generalize hT : ts[a]'hpos = T at t0 t1 t2 t3 K1 K0 HN HE
  clear hT
  obtain ⟨L, hLe⟩ : ∃ L, L = ts.length - a := ⟨_, rfl⟩
  obtain ⟨C, hCe⟩ : ∃ C, C = cap - a := ⟨_, rfl⟩
  obtain ⟨off, hOe⟩ : ∃ off, off = a * 4 := ⟨_, rfl⟩
  rw [← hLe] at p0 hL
  rw [← hCe] at p0
  rw [← hOe] at p0 t0 t1 t2 t3
  have HLe := Lib.hid hLe
  have HCe := Lib.hid hCe
  have HOe := Lib.hid hOe
  have hLC : L ≤ C := by omega
  have hC2 : C ≤ 9223372036854775807 := by omega
  have HL2 := Lib.hid (show T.kind ≠ 0 → 1 < L from fun hk => by have := HN.out hk; omega)
  clear hLe hCe hOe hmx hle h he
  go_enter Tryz.func84, Tryz.ntmps84
  by_cases hk : T.kind = 0
  · have e0 : (T.kind != 0) = false := by rw [hk]; rfl
    have HK := Lib.hid hk
    clear hk
    go_wp2_with fail
    refine bodyPost_ret (v := tkV T) (by simp [results, Tryz.results84, go_sem, tkV]) rfl ?_
    exact ⟨a, HE.out, HH.out.below (qbelow2 w _ _), K0.out HK.out, grown_of (qbelow2 w _ _), Nat.le_refl _⟩
  · have e0 : (T.kind != 0) = true := bne_iff_ne.2 hk
    have HK := Lib.hid hk
    have h1L : 1 < L := HL2.out hk
    clear hk
    go_wp2_with fail
    rw [show off + 4 = (a + 1) * 4 by rw [HOe.out]; omega, show L - 1 = ts.length - (a + 1) by rw [HLe.out]; omega, show C - 1 = cap - (a + 1) by rw [HCe.out]; omega]
    refine bodyPost_ret (v := tkV T) (by simp [results, Tryz.results84, go_sem, tkV]) rfl ?_
    have HS := HH.out.set_l (HN.out HK.out)
    exact ⟨a + 1, HE.out, HS.below (qbelow2 _ _ _), K1.out HK.out, pgrown_below (grown_set _ _ _ _) ((qbelow2 _ _ _).mono (by simp [World.setCell])), Nat.le_succ _⟩
section
variable {P g cap : Nat} {ts : List Tk} {nest : Nat} {l : List Tk} {W W' : World}
theorem SQ.blocks (h : SQ P g cap ts nest l W) : P < W.heap.size ∧ g < W.heap.size ∧ g ≠ P := by
  obtain ⟨a, -, h⟩ := h
  exact ⟨h.plt, h.lt, h.ne⟩
theorem SQ.keeps (h : SQ P g cap ts nest l W) (hk : KeepsV (fun b => b = P ∨ b = g) W W') (hs : W.heap.size ≤ W'.heap.size) : SQ P g cap ts nest l W' := by
  obtain ⟨a, e, h⟩ := h
  exact ⟨a, e, h.keeps hk hs⟩
theorem SQ.later {B : Nat} (h : SQ P g cap ts nest l W) (hb : Below B W W') (hp : P < B) (hg : g < B) : SQ P g cap ts nest l W' := by
  obtain ⟨a, e, h⟩ := h
  exact ⟨a, e, h.later hb hp hg⟩
theorem SQ.below (h : SQ P g cap ts nest l W) (hb : Below W.heap.size W W') : SQ P g cap ts nest l W' := h.later hb h.blocks.1 h.blocks.2.1
theorem SQ.set_other (h : SQ P g cap ts nest l W) {c : Nat} (hp : c ≠ P) (hg : c ≠ g) (i : Nat) (v : Value) : SQ P g cap ts nest l (W.setCell ⟨c, i, none⟩ v) :=
  h.keeps ((KeepsV.refl _ W).set (fun b hb e => by subst e; rcases hb with rfl | rfl <;> contradiction) i v) (by simp [World.setCell])
theorem SQ.mem (h : SQ P g cap ts nest l W) : hd l ∈ ts := by
  obtain ⟨a, rfl, h⟩ := h
  rw [hd_drop h.pos]
  exact List.getElem_mem _
end
/-- a call that hands back nothing -/
def DoneQ (P g cap : Nat) (ts : List Tk) (nest : Nat) (σ : Sx) (w : World) (e : Ending) (w' : World) : Prop := match σ with
  | .ok r => e = .returned (.tuple #[]) ∧ SQ P g cap ts nest r w' ∧ w.grownBy w' (some P)
  | .error (k, p) => e = flt k p ∧ w.grownBy w' (some P)
/-- a call that hands back the token that stands next -/
def TkQ (P g cap : Nat) (ts : List Tk) (nest : Nat) (T : Tk) (σ : Sx) (w : World) (e : Ending) (w' : World) : Prop := match σ with
  | .ok r => e = .returned (tkV T) ∧ SQ P g cap ts nest r w' ∧ w.grownBy w' (some P)
  | .error (k, p) => e = flt k p ∧ w.grownBy w' (some P)
theorem qis_s (P g cap : Nat) (ts : List Tk) (nest : Nat) (l : List Tk) (x : ByteArray) (w : World) (h : SQ P g cap ts nest l w) :
    Calls Tryz.prog 82 #[.pointer (some ⟨P, 0, none⟩), .string x] w fun e w' => e = .returned (.bool (isT x.data.toList l)) ∧ Below w.heap.size w w' := by
  obtain ⟨a, rfl, h⟩ := h
  exact qis_any P g cap ts a nest x w h
theorem qstep_s (P g cap : Nat) (ts : List Tk) (nest : Nat) (l : List Tk) (w : World) (h : SQ P g cap ts nest l w) (he : Ends ts) :
    Calls Tryz.prog 84 #[.pointer (some ⟨P, 0, none⟩)] w fun e w' => e = .returned (tkV (hd l)) ∧ SQ P g cap ts nest (stepL l) w' ∧ w.grownBy w' (some P) := by
  obtain ⟨a, rfl, h⟩ := h
  refine (qstep_any P g cap ts a nest w h he).mono fun e w' => ?_
  rintro ⟨a', ⟨ha, rfl⟩, hp, hs, hg, -⟩
  exact ⟨by rw [hd_drop ha], ⟨a', hs, hp⟩, hg⟩
set_option maxHeartbeats 2000000 in
theorem qtake_any (P g cap : Nat) (ts : List Tk) (nest : Nat) (l : List Tk) (x : ByteArray) (w : World) (h : SQ P g cap ts nest l w) (he : Ends ts) :
    Calls Tryz.prog 122 #[.pointer (some ⟨P, 0, none⟩), .string x] w fun e w' => e = .returned (.bool (isT x.data.toList l)) ∧ SQ P g cap ts nest (if isT x.data.toList l = true then stepL l else l) w' ∧ w.grownBy w' (some P) := by
  have C := Lib.hid (qis_s P g cap ts nest l x w h)
  have H := Lib.hid h
  have HE := Lib.hid he
  clear h he
  generalize isT x.data.toList l = B at C ⊢
  cases B
  · go_enter Tryz.func122, Tryz.ntmps122
    go_wp2_with fail
    (with_reducible refine Calls.mono C.out ?_)
    rintro e w1 ⟨rfl, hb⟩
    go_wp2_with fail
    go_ret
    exact ⟨rfl, H.out.below hb, grown_of hb⟩
  · go_enter Tryz.func122, Tryz.ntmps122
    go_wp2_with fail
    (with_reducible refine Calls.mono C.out ?_)
    rintro e w1 ⟨rfl, hb⟩
    have C2 := Lib.hid (qstep_s P g cap ts nest l w1 (H.out.below hb) HE.out)
    have HB := Lib.hid hb
    clear hb C
    go_wp2_with fail
    (with_reducible refine Calls.mono C2.out ?_)
    rintro e w2 ⟨rfl, hs, hg⟩
    unfold tkV
    go_wp2_with fail
    go_ret
    exact ⟨rfl, hs, grown_trans (grown_of HB.out) hg⟩
set_option maxHeartbeats 2000000 in
theorem qwant_any (P g cap : Nat) (ts : List Tk) (nest : Nat) (l : List Tk) (x : ByteArray) (w : World) (h : SQ P g cap ts nest l w) (he : Ends ts) :
    Calls Tryz.prog 85 #[.pointer (some ⟨P, 0, none⟩), .string x] w (DoneQ P g cap ts nest (wantX x.data.toList (.ok l)) w) := by
  have C := Lib.hid (qtake_any P g cap ts nest l x w h he)
  have R := Lib.hid (show wantX x.data.toList (.ok l) = if isT x.data.toList l = true then .ok (stepL l) else .error (74, (hd l).pos) from rfl)
  clear h he
  go_enter Tryz.func85, Tryz.ntmps85
  go_wp2_with fail
  (with_reducible refine Calls.mono C.out ?_)
  rintro e w1 ⟨rfl, hs, hg⟩
  generalize isT x.data.toList l = B at R hs ⊢
  have HG := Lib.hid hg
  clear hg C
  cases B
  · obtain ⟨a, rfl, hp⟩ := hs
    have hpos := hp.pos
    have D := Lib.hid (hd_drop hpos)
    obtain ⟨⟨p0, p1⟩, -⟩ := hp.cells
    obtain ⟨t0, t1, t2, t3⟩ := hp.tok
    have hL : 0 < ts.length - a := by omega
    have C3 := Lib.hid (qfail_any P 74 (ts[a]'hpos).pos w1)
    generalize ts[a]'hpos = T at t0 t1 t2 t3 D C3
    generalize ts.length - a = L at p0 hL
    generalize cap - a = C at p0
    generalize a * 4 = off at p0 t0 t1 t2 t3
    clear hp hpos
    go_wp2_with fail
    (with_reducible refine Calls.mono C3.out ?_)
    rintro e w2 ⟨rfl, rfl⟩
    refine ⟨rfl, ?_⟩
    rw [R.out, if_neg (by decide), D.out]
    exact ⟨rfl, HG.out⟩
  · have HS := Lib.hid hs
    clear hs
    go_wp2_with fail
    (first | (refine bodyPost_end (results_none rfl _ _ _) rfl ?_) | (refine bodyPost_ret (results_none rfl _ _ _) rfl ?_))
    rw [R.out]
    exact ⟨rfl, HS.out, HG.out⟩
set_option maxHeartbeats 2000000 in
theorem qkind_any (P g cap : Nat) (ts : List Tk) (nest : Nat) (l : List Tk) (k : Int) (w : World) (h : SQ P g cap ts nest l w) (he : Ends ts) :
    Calls Tryz.prog 93 #[.pointer (some ⟨P, 0, none⟩), .int .i64 k] w (TkQ P g cap ts nest (hd l) (kindX k (.ok l)) w) := by
  have R := Lib.hid (show kindX k (.ok l) = if (hd l).kind = k then .ok (stepL l) else .error (74, (hd l).pos) from rfl)
  have H := Lib.hid h
  have HE := Lib.hid he
  obtain ⟨a, hl, hp⟩ := h
  have hpos := hp.pos
  have hPlt := hp.plt
  have hg0 := hp.lt
  have D := Lib.hid (show hd l = ts[a]'hpos by rw [hl, hd_drop hpos])
  obtain ⟨⟨p0, p1⟩, -⟩ := hp.cells
  obtain ⟨t0, t1, t2, t3⟩ := hp.tok
  have hL : 0 < ts.length - a := by omega
  generalize ts[a]'hpos = T at t0 t1 t2 t3 D
  generalize ts.length - a = L at p0 hL
  generalize cap - a = C at p0
  generalize a * 4 = off at p0 t0 t1 t2 t3
  clear hp he hl hpos
  go_enter Tryz.func93, Tryz.ntmps93
  by_cases hk : T.kind = k
  · have e0 : (T.kind != k) = false := by rw [hk]; exact bne_self_eq_false k
    have R2 := Lib.hid (R.out.trans (if_pos (by rw [D.out]; exact hk)))
    have C2 := Lib.hid (qstep_s P g cap ts nest l _ (H.out.below (nbelow1 w (.cells #[.int .i64 0, .string ⟨#[]⟩, .int .i64 0, .int .i64 0] 96))) HE.out)
    clear hk
    go_wp2_with fail
    (with_reducible refine Calls.mono C2.out ?_)
    rintro e w2 ⟨rfl, hs, hg⟩
    have hne : w.heap.size ≠ P := Nat.ne_of_gt hPlt
    have HZ := (hg.block w.heap.size (by simp) (fun e => hne (Option.some.inj e))).trans (QZero.make w)
    obtain ⟨c0, c1, c2, c3, f0, f1, f2, f3⟩ := QZero.cells HZ
    have hwl : w.heap.size < w2.heap.size := (Array.getElem?_eq_some_iff.1 HZ).1
    have HS := Lib.hid hs
    have HG := Lib.hid (grown_trans (grown_of (nbelow1 w _)) hg)
    rw [D.out]
    unfold tkV
    clear hs hg HZ t0 t1 t2 t3 p0 p1
    go_wp2_with fail
    refine bodyPost_ret (v := tkV T) (by simp [results, Tryz.results93, go_sem, tkV, c0, c1, c2, c3]) rfl ?_
    rw [R2.out, D.out]
    have HF := (below4 (Below.refl w.heap.size w2) (.int .i64 T.kind) (.string ⟨T.text.toArray⟩) (.int .i64 T.n) (.int .i64 T.pos))
    exact ⟨rfl, HS.out.later HF hPlt hg0, pgrown_below HG.out HF⟩
  · have e0 : (T.kind != k) = true := bne_iff_ne.2 hk
    have R2 := Lib.hid (R.out.trans (if_neg (by rw [D.out]; exact hk)))
    have C3 := Lib.hid (qfail_any P 74 T.pos (w.alloc (.cells #[.int .i64 0, .string ⟨#[]⟩, .int .i64 0, .int .i64 0] 96)))
    clear hk
    go_wp2_with fail
    (with_reducible refine Calls.mono C3.out ?_)
    rintro e w2 ⟨rfl, rfl⟩
    refine ⟨rfl, ?_⟩
    rw [R2.out, D.out]
    exact ⟨rfl, grown_of (nbelow1 w _)⟩
end Go.Proofs.YtcndknkdhlmdnaaGreatDoor

/-
  usanceref07's parser: a token of a kind; one nest more; a node, unless it is too deep.
-/
namespace Go.Proofs.YtcndknkdhlmdnaaGreatDoor
open Go.RowKit
set_option maxRecDepth 100000

end Go.Proofs.YtcndknkdhlmdnaaGreatDoor

/-
  usanceref07's parser: a node, unless it is too deep; what stands next, told by where the reading stands.
-/
namespace Go.Proofs.YtcndknkdhlmdnaaGreatDoor
open Go.RowKit
set_option maxRecDepth 100000

end Go.Proofs.YtcndknkdhlmdnaaGreatDoor

/-
  usanceref07's parser: what stands next, told by where the reading stands; what the parts of the parser do.
-/
namespace Go.Proofs.YtcndknkdhlmdnaaGreatDoor
open Go.RowKit
set_option maxRecDepth 100000

/-- a token of bounds that memory may hold -/
def TkOk (t : Tk) : Prop := (Lit.int .i64 t.n).wf = true ∧ (Lit.int .i64 t.pos).wf = true ∧ t.text.length ≤ 16384
section
variable (P g cap : Nat) (ts : List Tk)
end
end Go.Proofs.YtcndknkdhlmdnaaGreatDoor

/-
  usanceref07's parser: a not, a -, ahead of what stands behind it.
-/
namespace Go.Proofs.YtcndknkdhlmdnaaGreatDoor
open Go.RowKit
set_option maxRecDepth 100000

end Go.Proofs.YtcndknkdhlmdnaaGreatDoor

/-
  usanceref07's parser: a unary expression; what a chain's parts are.
-/
namespace Go.Proofs.YtcndknkdhlmdnaaGreatDoor
open Go.RowKit
set_option maxRecDepth 100000

end Go.Proofs.YtcndknkdhlmdnaaGreatDoor

/-
  usanceref07's parser: Not.
-/
namespace Go.Proofs.YtcndknkdhlmdnaaGreatDoor
open Go.RowKit
set_option maxRecDepth 100000

end Go.Proofs.YtcndknkdhlmdnaaGreatDoor

/-
  usanceref07's signs.
-/
namespace Go.Proofs.YtcndknkdhlmdnaaGreatDoor
open Go.RowKit
set_option maxRecDepth 100000

end Go.Proofs.YtcndknkdhlmdnaaGreatDoor

/-
  usanceref07's parser: a chain.
-/
namespace Go.Proofs.YtcndknkdhlmdnaaGreatDoor
open Go.RowKit
set_option maxRecDepth 100000

end Go.Proofs.YtcndknkdhlmdnaaGreatDoor

/-
  usanceref07's parser: pick STRING ( Expr , Expr , Expr ).
-/
namespace Go.Proofs.YtcndknkdhlmdnaaGreatDoor
open Go.RowKit
set_option maxRecDepth 100000

end Go.Proofs.YtcndknkdhlmdnaaGreatDoor

/-
  usanceref07's parser: an expression.
-/
namespace Go.Proofs.YtcndknkdhlmdnaaGreatDoor
open Go.RowKit
set_option maxRecDepth 100000

end Go.Proofs.YtcndknkdhlmdnaaGreatDoor

/-
  usanceref07's parser: a call's arguments: what lies in memory, and the plain law of them.
-/
namespace Go.Proofs.YtcndknkdhlmdnaaGreatDoor
open Go.RowKit
set_option maxRecDepth 100000

/-- a node, where its kids lie, and for how many there is room -/
abbrev Ent := Nd × Option Addr × Nat
def ndC (e : Ent) : List Value := [.int .i64 e.1.kind, .string e.1.text, .int .i64 e.1.n, .slice e.2.1 e.1.kids.length e.2.2, .int .i64 e.1.place]
def entC (L : List Ent) : List Value := L.flatMap ndC
theorem ent_snoc (L : List Ent) (e : Ent) : entC (L ++ [e]) = entC L ++ ndC e := by unfold entC; simp
theorem ent_get : ∀ (L : List Ent) (j : Nat) (hj : j < L.length) (i : Nat) (_ : i < 5), (entC L)[j * 5 + i]? = (ndC L[j])[i]?
  | e :: L, 0, _, i, hi => by
    unfold entC
    rw [List.flatMap_cons, Nat.zero_mul, Nat.zero_add, List.getElem?_append_left (by exact hi)]
    rfl
  | e :: L, j + 1, hj, i, hi => by
    have := ent_get L j (by simpa using hj) i hi
    unfold entC at this ⊢
    rw [List.flatMap_cons, List.getElem?_append_right (by show 5 ≤ _; omega)]
    rw [show (j + 1) * 5 + i - (ndC e).length = j * 5 + i by show (j + 1) * 5 + i - 5 = _; omega]
    exact this
theorem nd_one (e : Ent) : ∀ u ∈ ndC e, u.oneCell' = true := by
  intro u hu
  unfold ndC at hu
  simp only [List.mem_cons, List.not_mem_nil, or_false] at hu
  rcases hu with rfl | rfl | rfl | rfl | rfl <;> rfl
theorem cells5_new (W : World) (T : TypeId) (v0 v1 v2 v3 v4 : Value) : ∀ j u, [v0, v1, v2, v3, v4][j]? = some u → (W.alloc (.cells #[v0, v1, v2, v3, v4] T)).cell? ((⟨W.heap.size, 0, none⟩ : Addr).add j) = some u := by
  intro j u h
  rw [Go.WideShapes.add_plain, Nat.zero_add]
  have h' : (W.alloc (.cells #[v0, v1, v2, v3, v4] T)).heap[W.heap.size]? = some (.cells #[v0, v1, v2, v3, v4] T (0, 0)) := by show (W.heap.push _)[W.heap.size]? = _; simp
  rw [World.cell?]
  simp only [h']
  match j, h with
  | 0, h => exact h
  | 1, h => exact h
  | 2, h => exact h
  | 3, h => exact h
  | 4, h => exact h
/-- nodes in a row are kids in a row -/
theorem lie_row {av : Nat → Prop} {base T : Nat} {W : World} {g cap : Nat} {L : List Ent} (h : W.ownsRow base T 5 (.slice (some ⟨g, 0, none⟩) L.length cap) L.length (entC L)) (hg : av g) (hl : ∀ e ∈ L, e.1.lies av W e.2.1 e.2.2) : Nd.lie av W (L.map (·.1)) (some ⟨g, 0, none⟩) 0 := by
  have hc := h.cells (g := g) rfl
  refine Nd.lie.of _ 0 fun j hj => ?_
  rw [List.length_map] at hj
  have q : ∀ i, i < 5 → ∀ u, (ndC L[j])[i]? = some u → W.cell? ⟨g, 0 + (0 + j) * 5 + i, none⟩ = some u := fun i hi u hu => by
    have := hc (j * 5 + i) u (by rw [ent_get L j hj i hi]; exact hu)
    rw [Go.WideShapes.add_plain] at this
    rw [Nat.zero_add j, Nat.add_assoc]
    exact this
  refine ⟨g, 0, L[j].2.1, L[j].2.2, ?_⟩
  rw [List.getElem_map]
  exact ⟨rfl, hg, q 0 (by decide) _ rfl, q 1 (by decide) _ rfl, q 2 (by decide) _ rfl, q 3 (by decide) _ rfl, q 4 (by decide) _ rfl, hl _ (List.getElem_mem hj)⟩
theorem depth_all : ∀ (ks : List Nd) (n : Nat), (∀ k ∈ ks, depthN k ≤ n) → depthKs ks ≤ n
  | [], n, _ => by rw [depthKs]; exact Nat.zero_le _
  | k :: ks, n, h => by
    rw [depthKs]
    have h1 := h k (List.mem_cons_self ..)
    have h2 := depth_all ks n fun k hk => h k (List.mem_cons_of_mem _ hk)
    omega
end Go.Proofs.YtcndknkdhlmdnaaGreatDoor

/-
  The program's parser: a node of kids.
-/
namespace Go.Proofs.YtcndknkdhlmdnaaGreatDoor
open Go.RowKit
set_option maxRecDepth 100000

/-- a tree as the program's value -/
def trV (t : Nd) (a : Option Addr) (cp : Nat) : Value := .agg #[.int .i64 t.kind, .string t.text, .int .i64 t.n, .slice a t.kids.length cp, .int .i64 t.place, .int .i64 (depthN t)]
/-- its cells -/
def trC (e : Ent) : List Value := ndC e ++ [.int .i64 (depthN e.1)]
/-- trees in a row -/
def TRow (W : World) (b off : Nat) (L : List Ent) : Prop := ∀ j (hj : j < L.length), W.cell? ⟨b, off + j * 6, none⟩ = some (.int .i64 L[j].1.kind) ∧ W.cell? ⟨b, off + j * 6 + 1, none⟩ = some (.string L[j].1.text) ∧ W.cell? ⟨b, off + j * 6 + 2, none⟩ = some (.int .i64 L[j].1.n) ∧
  W.cell? ⟨b, off + j * 6 + 3, none⟩ = some (.slice L[j].2.1 L[j].1.kids.length L[j].2.2) ∧ W.cell? ⟨b, off + j * 6 + 4, none⟩ = some (.int .i64 L[j].1.place) ∧ W.cell? ⟨b, off + j * 6 + 5, none⟩ = some (.int .i64 (depthN L[j].1))
theorem TRow.keeps {W W' : World} {b off : Nat} {L : List Ent} (h : TRow W b off L) (hk : W'.heap[b]? = W.heap[b]?) : TRow W' b off L := fun j hj => by
  have q : ∀ o, W'.cell? ⟨b, o, none⟩ = W.cell? ⟨b, o, none⟩ := fun o => World.cell?_of_block hk
  obtain ⟨h0, h1, h2, h3, h4, h5⟩ := h j hj
  exact ⟨(q _).trans h0, (q _).trans h1, (q _).trans h2, (q _).trans h3, (q _).trans h4, (q _).trans h5⟩
/-- a tree in a block of its own: what the fields hold, and how deep -/
def T6 (b : Nat) (k : Int) (s : ByteArray) (n : Int) (a : Option Addr) (len cp : Nat) (p : Int) (d : Int) (W : World) : Prop := W.heap[b]? = some (.cells #[.int .i64 k, .string s, .int .i64 n, .slice a len cp, .int .i64 p, .int .i64 d] 67 (0, 0))
section
variable {b : Nat} {k n p d : Int} {s : ByteArray} {a : Option Addr} {len cp : Nat} {W W' : World}
theorem T6.lt (h : T6 b k s n a len cp p d W) : b < W.heap.size := (Array.getElem?_eq_some_iff.1 h).1
theorem T6.cells (h : T6 b k s n a len cp p d W) : (W.cell? ⟨b, 0, none⟩ = some (.int .i64 k) ∧ W.cell? ⟨b, 1, none⟩ = some (.string s) ∧ W.cell? ⟨b, 2, none⟩ = some (.int .i64 n) ∧ W.cell? ⟨b, 3, none⟩ = some (.slice a len cp) ∧ W.cell? ⟨b, 4, none⟩ = some (.int .i64 p) ∧ W.cell? ⟨b, 5, none⟩ = some (.int .i64 d)) ∧
    (W.frozen? ⟨b, 0, none⟩ = false ∧ W.frozen? ⟨b, 1, none⟩ = false ∧ W.frozen? ⟨b, 2, none⟩ = false ∧ W.frozen? ⟨b, 3, none⟩ = false ∧ W.frozen? ⟨b, 4, none⟩ = false ∧ W.frozen? ⟨b, 5, none⟩ = false) := by
  have h' : W.heap[b]? = some (.cells #[.int .i64 k, .string s, .int .i64 n, .slice a len cp, .int .i64 p, .int .i64 d] 67 (0, 0)) := h
  refine ⟨⟨?_, ?_, ?_, ?_, ?_, ?_⟩, ?_, ?_, ?_, ?_, ?_, ?_⟩ <;> simp [World.cell?, World.frozen?, h']
theorem T6.make (w : World) (k : Int) (s : ByteArray) (n : Int) (a : Option Addr) (len cp : Nat) (p d : Int) : T6 w.heap.size k s n a len cp p d (w.alloc (.cells #[.int .i64 k, .string s, .int .i64 n, .slice a len cp, .int .i64 p, .int .i64 d] 67)) := by
  show (w.heap.push _)[w.heap.size]? = _; simp
theorem T6.below (h : T6 b k s n a len cp p d W) (hb : Below W.heap.size W W') : T6 b k s n a len cp p d W' := (hb.block b h.lt).trans h
theorem T6.grown {r : Option Nat} (h : T6 b k s n a len cp p d W) (g : W.grownBy W' r) (hp : r ≠ some b) : T6 b k s n a len cp p d W' := (g.block b h.lt (fun e => hp e.symm)).trans h
theorem T6.set (h : T6 b k s n a len cp p d W) {c : Nat} (hc : b ≠ c) (i : Nat) (v : Value) : T6 b k s n a len cp p d (W.setCell ⟨c, i, none⟩ v) := (Below.heap_setCell _ _ _ _ hc).trans h
theorem T6.set3 (h : T6 b k s n a len cp p d W) (a' : Option Addr) (len' cp' : Nat) : T6 b k s n a' len' cp' p d (W.setCell ⟨b, 3, none⟩ (.slice a' len' cp')) := heap_set (show W.heap[b]? = some (.cells #[.int .i64 k, .string s, .int .i64 n, .slice a len cp, .int .i64 p, .int .i64 d] 67 (0, 0)) from h) 3 _
theorem T6.set5 (h : T6 b k s n a len cp p d W) (d' : Int) : T6 b k s n a len cp p d' (W.setCell ⟨b, 5, none⟩ (.int .i64 d')) := heap_set (show W.heap[b]? = some (.cells #[.int .i64 k, .string s, .int .i64 n, .slice a len cp, .int .i64 p, .int .i64 d] 67 (0, 0)) from h) 5 _
end
theorem depthKs_snoc : ∀ (ks : List Nd) (t : Nd), depthKs (ks ++ [t]) = max (depthKs ks) (depthN t)
  | [], t => by rw [List.nil_append, depthKs]; show max (depthN t) 0 = max 0 (depthN t); omega
  | k :: ks, t => by rw [List.cons_append, depthKs, depthKs, depthKs_snoc ks t]; omega
/-- the kids so far -/
def kidsD (L : List Ent) : Nat := depthKs (L.map (·.1))
theorem kidsD_snoc (L : List Ent) (e : Ent) : kidsD (L ++ [e]) = max (kidsD L) (depthN e.1) := by unfold kidsD; rw [List.map_append]; exact depthKs_snoc _ _
theorem kidsD_le {L : List Ent} {n : Nat} (h : ∀ e ∈ L, depthN e.1 ≤ n) : kidsD L ≤ n := depth_all _ _ fun k hk => by
  obtain ⟨e, he, rfl⟩ := List.mem_map.1 hk
  exact h e he
/-- where the making of a node stands -/
def MadeI (k : Int) (s : ByteArray) (n p : Int) (L : List Ent) (w : World) (j : Nat) (ao : Option Addr) (c : Nat) (wr : World) : Prop :=
  wr.ownsRow (w.heap.size + 3) 24 5 (.slice ao j c) j (entC (L.take j)) ∧ T6 (w.heap.size + 1 + 1) k s n ao j c p (kidsD (L.take j)) wr ∧ NBox w.heap.size (.mk k s n [] p) none 0 wr ∧ T6 (w.heap.size + 1) 0 ⟨#[]⟩ 0 none 0 0 0 0 wr ∧ Below w.heap.size w wr
theorem take_ent {L : List Ent} {j : Nat} (hj : j < L.length) : L.take (j + 1) = L.take j ++ [L[j]] := List.take_succ_eq_append_getElem hj
/-- a tree written over a tree -/
def put6 (W : World) (b : Nat) (k : Int) (s : ByteArray) (n : Int) (a : Option Addr) (len cp : Nat) (p d : Int) : World := (((((W.setCell ⟨b, 0, none⟩ (.int .i64 k)).setCell ⟨b, 1, none⟩ (.string s)).setCell ⟨b, 2, none⟩ (.int .i64 n)).setCell ⟨b, 3, none⟩ (.slice a len cp)).setCell ⟨b, 4, none⟩ (.int .i64 p)).setCell ⟨b, 5, none⟩ (.int .i64 d)
theorem put6_below {B b : Nat} {w W : World} (h : Below B w W) (hb : B ≤ b) (k : Int) (s : ByteArray) (n : Int) (a : Option Addr) (len cp : Nat) (p d : Int) : Below B w (put6 W b k s n a len cp p d) :=
  (((((h.setCell (p := ⟨b, 0, none⟩) hb _).setCell (p := ⟨b, 1, none⟩) hb _).setCell (p := ⟨b, 2, none⟩) hb _).setCell (p := ⟨b, 3, none⟩) hb _).setCell (p := ⟨b, 4, none⟩) hb _).setCell (p := ⟨b, 5, none⟩) hb _
theorem put6_grown {b : Nat} (W : World) (k : Int) (s : ByteArray) (n : Int) (a : Option Addr) (len cp : Nat) (p d : Int) : W.grownBy (put6 W b k s n a len cp p d) (some b) :=
  grown_trans (grown_trans (grown_trans (grown_trans (grown_trans (grown_set W b 0 _) (grown_set _ b 1 _)) (grown_set _ b 2 _)) (grown_set _ b 3 _)) (grown_set _ b 4 _)) (grown_set _ b 5 _)
theorem T6.put {b : Nat} {k n p d : Int} {s : ByteArray} {a : Option Addr} {len cp : Nat} {W : World} (h : T6 b k s n a len cp p d W) (k' : Int) (s' : ByteArray) (n' : Int) (a' : Option Addr) (len' cp' : Nat) (p' d' : Int) : T6 b k' s' n' a' len' cp' p' d' (put6 W b k' s' n' a' len' cp' p' d') := by
  have h' : W.heap[b]? = some (.cells #[.int .i64 k, .string s, .int .i64 n, .slice a len cp, .int .i64 p, .int .i64 d] 67 (0, 0)) := h
  exact heap_set (heap_set (heap_set (heap_set (heap_set (heap_set h' 0 _) 1 _) 2 _) 3 _) 4 _) 5 _
theorem lie_own {av : Nat → Prop} {base T : Nat} {w W : World} {a : Option Addr} {cp : Nat} {L : List Ent} (h : W.ownsRow base T 5 (.slice a L.length cp) L.length (entC L)) (hb : Below w.heap.size w W) (hw : w.heap.size ≤ base) (hav : ∀ b, av b → b < w.heap.size) (hl : ∀ e ∈ L, e.1.lies av w e.2.1 e.2.2) :
    Nd.lie (fun b => av b ∨ Fr w.heap.size W.heap.size b) W (L.map (·.1)) a 0 ∧ L.length ≤ cp ∧ cp ≤ maxLen := by
  have hlt := h.lt
  rcases h.2 with ⟨e, h0⟩ | ⟨g, cap, cur, e, hg, -, h1, h2, -⟩
  · obtain ⟨rfl, -, rfl⟩ := Value.slice.inj e
    have : L = [] := List.length_eq_zero_iff.1 h0
    subst this
    exact ⟨trivial, Nat.le_refl _, Nat.zero_le _⟩
  · cases e
    exact ⟨lie_row h (.inr ⟨by omega, (hlt g rfl).2⟩) fun e he => lies_move (hl e he) (fun b hb' => hb.block b (hav b hb')) fun b hb' => .inl hb', h1, h2⟩
/-- what made hands back -/
def MadeQ (k : Int) (s : List UInt8) (n p : Int) (L : List Ent) (w : World) (e : Ending) (w' : World) : Prop :=
  Below w.heap.size w w' ∧ (if 100 < depthN (mkN k s n (L.map (·.1)) p) then e = flt 75 p else
    ∃ (a : Option Addr) (cp : Nat), e = .returned (trV (mkN k s n (L.map (·.1)) p) a cp) ∧ ∀ av : Nat → Prop, (∀ b, av b → b < w.heap.size) → (∀ e ∈ L, e.1.lies av w e.2.1 e.2.2) → Nd.lie (fun b => av b ∨ Fr w.heap.size w'.heap.size b) w' (L.map (·.1)) a 0 ∧ L.length ≤ cp ∧ cp ≤ maxLen)
set_option maxHeartbeats 4000000 in
theorem qmade_any (P : Nat) (k : Int) (s : List UInt8) (n p : Int) (ao : Option Addr) (cp : Nat) (L : List Ent) (w : World) (hL : L.length ≤ 8) (hr : L ≠ [] → ∃ g off, ao = some ⟨g, off, none⟩ ∧ g < w.heap.size ∧ TRow w g off L) (hd : ∀ e ∈ L, depthN e.1 ≤ 100) :
    Calls Tryz.prog 86 #[.pointer (some ⟨P, 0, none⟩), .agg #[.int .i64 k, .string ⟨s.toArray⟩, .int .i64 n, .slice none 0 0, .int .i64 p], .slice ao L.length cp] w (MadeQ k s n p L w) := by
  obtain ⟨i0, hi, hz0, hz1, hz2⟩ := info_parts (show (Tryz.prog.info? 24).map (fun i => (i.zero, i.size, i.bytes)) = some (some (.agg #[.int .i64 0, .string ⟨#[]⟩, .int .i64 0, .slice none 0 0, .int .i64 0]), 5, 64) by kernel_rfl)
  have HI0 := Lib.hid (show _ ∧ _ ∧ _ ∧ _ from ⟨hi, hz0, hz1, hz2⟩)
  clear hi hz0 hz1 hz2
  have HR := Lib.hid hr
  have HD := Lib.hid hd
  generalize hsb : (⟨s.toArray⟩ : ByteArray) = sb
  have HSB := Lib.hid hsb
  clear hr hd hsb
  go_enter Tryz.func86, Tryz.ntmps86
  go_wp2_with fail
  obtain ⟨W1, hW1⟩ : ∃ W, W = ((w.alloc (.cells #[.int .i64 k, .string sb, .int .i64 n, .slice none 0 0, .int .i64 p] 24)).alloc (.cells #[.int .i64 0, .string ⟨#[]⟩, .int .i64 0, .slice none 0 0, .int .i64 0, .int .i64 0] 67)).alloc (.cells #[.int .i64 k, .string sb, .int .i64 n, .slice none 0 0, .int .i64 p, .int .i64 0] 67) := ⟨_, rfl⟩
  have I0 := Lib.hid (show MadeI k sb n p L w 0 none 0 W1 by
    have b1 := nbelow1 w (.cells #[.int .i64 k, .string sb, .int .i64 n, .slice none 0 0, .int .i64 p] 24)
    have n1 := NBox.make w (.mk k sb n [] p) none 0
    refine ⟨World.ownsRow_nil _ _ _ _, ?_, ?_, ?_, ?_⟩
    · have := T6.make ((w.alloc (.cells #[.int .i64 k, .string sb, .int .i64 n, .slice none 0 0, .int .i64 p] 24)).alloc (.cells #[.int .i64 0, .string ⟨#[]⟩, .int .i64 0, .slice none 0 0, .int .i64 0, .int .i64 0] 67)) k sb n none 0 0 p 0
      rw [hW1]
      simpa [kidsD, depthKs] using this
    · rw [hW1]; exact n1.below (qbelow2 _ _ _)
    · have := T6.make (w.alloc (.cells #[.int .i64 k, .string sb, .int .i64 n, .slice none 0 0, .int .i64 p] 24)) 0 ⟨#[]⟩ 0 none 0 0 0 0
      rw [hW1]
      simpa using this.below (nbelow1 _ (.cells #[.int .i64 k, .string sb, .int .i64 n, .slice none 0 0, .int .i64 p, .int .i64 0] 67))
    · rw [hW1]; exact b1.trans ((qbelow2 _ _ _).mono b1.size))
  rw [← hW1]
  clear hW1
  go_loopw [14] (fun i wr => ∃ (j : Nat) (a : Option Addr) (c : Nat), j ≤ L.length ∧ i = .int .i64 j ∧ Hid (MadeI k sb n p L w j a c wr)) (fun i _ => (L.length - (intOf i).toNat))
  case atStart => exact ⟨0, none, 0, Nat.zero_le _, rfl, I0.out⟩
  case round =>
    obtain ⟨j, a, c, hj, rfl, HI⟩ := hrel
    clear I0
    by_cases hlt : j < L.length
    · obtain ⟨g, off, rfl, hg, hrow⟩ := HR.out (fun e => by rw [e] at hlt; exact absurd hlt (by simp))
      obtain ⟨c0, c1, c2, c3, c4, c5⟩ := (hrow.keeps (HI.out.2.2.2.2.block g hg)) j hlt
      have hD := HD.out _ (List.getElem_mem hlt)
      have hDk := kidsD_le (L := L.take j) fun e he => HD.out e (List.mem_of_mem_take he)
      have HT := Lib.hid (take_ent hlt)
      have HTL := Lib.hid (show (L.take j).length = j from List.length_take_of_le hj)
      generalize hLj : L[j] = E at c0 c1 c2 c3 c4 c5 hD HT
      obtain ⟨t, ta, tc⟩ := E
      obtain ⟨W2, hW2⟩ : ∃ W, W = wr.alloc (.cells #[.int .i64 t.kind, .string t.text, .int .i64 t.n, .slice ta t.kids.length tc, .int .i64 t.place, .int .i64 (depthN t)] 67) := ⟨_, rfl⟩
      dsimp only at c0 c1 c2 c3 c4 c5 hD
      clear hrow hLj HR HD
      go_upto_region 5 with fail
      rw [← hW2]
      have B2 := Lib.hid (show Below wr.heap.size wr W2 from hW2 ▸ nbelow1 _ _)
      have K2 := Lib.hid (show T6 wr.heap.size t.kind t.text t.n ta t.kids.length tc t.place (depthN t) W2 from hW2 ▸ T6.make wr _ _ _ _ _ _ _ _)
      have X2 := Lib.hid (show T6 (w.heap.size + 1 + 1) k sb n a j c p (kidsD (L.take j)) W2 from HI.out.2.1.below B2.out)
      have O2 := Lib.hid (show W2.ownsRow (w.heap.size + 3) 24 5 (.slice a j c) j (entC (L.take j)) from own_below HI.out.1 B2.out)
      have hwr := Lib.hid (show w.heap.size + 1 + 1 < wr.heap.size from HI.out.2.1.lt)
      have hlt2 := K2.out.lt
      have hlt3 := X2.out.lt
      obtain ⟨⟨k0, k1, k2, k3, k4, k5⟩, -⟩ := K2.out.cells
      obtain ⟨⟨x0, x1, x2, x3, x4, x5⟩, ⟨f0, f1, f2, f3, f4, f5⟩⟩ := X2.out.cells
      clear hW2 c0 c1 c2 c3 c4 c5
      obtain ⟨W3, hW3⟩ : ∃ W, W = W2.alloc (.cells #[.int .i64 t.kind, .string t.text, .int .i64 t.n, .slice ta t.kids.length tc, .int .i64 t.place] 24) := ⟨_, rfl⟩
      have B3 := Lib.hid (show Below W2.heap.size W2 W3 from hW3 ▸ nbelow1 _ _)
      have N3 := Lib.hid (show ∀ i u, (ndC (t, ta, tc))[i]? = some u → W3.cell? ((⟨W2.heap.size, 0, none⟩ : Addr).add i) = some u from hW3 ▸ cells5_new _ _ _ _ _ _ _)
      have O3 := Lib.hid (show W3.ownsRow (w.heap.size + 3) 24 5 (.slice a j c) j (entC (L.take j)) from hW3 ▸ O2.out.alloc _)
      have HS3 := Lib.hid (show w.heap.size + 3 ≤ W3.heap.size by have := B3.out.size; omega)
      have HOB := Lib.hid (show ∀ d, (Value.slice a j c).ownBlock = some d → w.heap.size + 3 ≤ d ∧ d < wr.heap.size from fun d hd => HI.out.1.lt d hd)
      have HF := Lib.hid (show ∀ w5, W3.grownBy w5 (Value.slice a j c).ownBlock → T6 (w.heap.size + 1 + 1) k sb n a j c p (kidsD (L.take j)) w5 ∧ T6 wr.heap.size t.kind t.text t.n ta t.kids.length tc t.place (depthN t) w5 from fun w5 hg =>
        ⟨(X2.out.below B3.out).grown hg (fun e => by have := (HOB.out _ e).1; omega), (K2.out.below B3.out).grown hg (fun e => by have := (HOB.out _ e).2; omega)⟩)
      go_upto_region 6 with (at_builtin; rw [← hW3]; refine wpList_append_lies _ rfl _ _ 22 rfl (w.heap.size + 3) 24 i0 (.agg #[.int .i64 0, .string ⟨#[]⟩, .int .i64 0, .slice none 0 0, .int .i64 0]) 5 64 Tryz.underlying22 HI0.out.1 HI0.out.2.1 HI0.out.2.2.1 HI0.out.2.2.2 rfl (by decide) _ _ _ rfl O3.out ⟨W2.heap.size, 0, none⟩ 1 1 (ndC (t, ta, tc)) rfl rfl N3.out (nd_one _) (by decide) (by unfold maxLen; omega) (by omega) HS3.out _ rfl ?_; intro gb cap' w5 hown' hgrow' hat hltg; have X5 := Lib.hid (HF.out w5 hgrow'); have HO' := Lib.hid hown'; have HG' := Lib.hid hgrow'; clear k0 k1 k2 k3 k4 k5 x0 x1 x2 x3 x4 x5 f0 f1 f2 f3 f4 f5 hown' hgrow'; obtain ⟨⟨x0, x1, x2, x3, x4, x5⟩, ⟨f0, f1, f2, f3, f4, f5⟩⟩ := X5.out.1.cells; have hl5 := X5.out.1.lt)
      obtain ⟨W6, hW6⟩ : ∃ W, W = w5.setCell ⟨w.heap.size + 1 + 1, 3, none⟩ (.slice (some ⟨gb, 0, none⟩) (j + 1) cap') := ⟨_, rfl⟩
      rw [← hW6]
      have X6 := Lib.hid (show T6 (w.heap.size + 1 + 1) k sb n (some ⟨gb, 0, none⟩) (j + 1) cap' p (kidsD (L.take j)) W6 from hW6 ▸ X5.out.1.set3 _ _ _)
      have K6 := Lib.hid (show T6 wr.heap.size t.kind t.text t.n ta t.kids.length tc t.place (depthN t) W6 from hW6 ▸ X5.out.2.set (by have := hwr.out; omega) _ _)
      have HW6 := Lib.hid hW6
      clear hW6 hW3 x0 x1 x2 x3 x4 x5 f0 f1 f2 f3 f4 f5
      obtain ⟨⟨k0, k1, k2, k3, k4, k5⟩, -⟩ := K6.out.cells
      obtain ⟨⟨x0, x1, x2, x3, x4, x5⟩, ⟨f0, f1, f2, f3, f4, f5⟩⟩ := X6.out.cells
      have hl6 := X6.out.lt
      have hk6 := K6.out.lt
      go_wp2_with fail
      go_roundw
      case rel =>
        have hb1 : gb ≠ w.heap.size + 1 + 1 ∧ w.heap.size + 3 ≤ gb := by
          have := HO'.out.lt gb rfl
          omega
        have hsz6 : W6.heap.size = w5.heap.size := by rw [HW6.out]; simp [World.setCell]
        have hO6 : W6.ownsRow (w.heap.size + 3) 24 5 (.slice (some ⟨gb, 0, none⟩) (j + 1) cap') (j + 1) (entC (L.take (j + 1))) := by
          rw [HT.out, ent_snoc, HW6.out]
          exact HO'.out.kept (grown_set _ _ _ _) (.inr (fun e => hb1.1 (Option.some.inj e)))
        have hD5 : kidsD (L.take (j + 1)) = max (kidsD (L.take j)) (depthN t) := by rw [HT.out, kidsD_snoc]
        have G0 : wr.grownBy W3 (Value.slice a j c).ownBlock := grown_of (B2.out.trans (B3.out.mono B2.out.size))
        have G5 : wr.grownBy w5 (Value.slice a j c).ownBlock := grown_trans G0 HG'.out
        have hq : ∀ d, d < w.heap.size + 1 + 1 → w5.heap[d]? = wr.heap[d]? := fun d hd => G5.block d (by have := hwr.out; omega) (fun e => by have := (HOB.out d e.symm).1; omega)
        have hb5 : Below w.heap.size w w5 := HI.out.2.2.2.2.trans ⟨G5.os, G5.tape, G5.output, G5.size, fun d hd => hq d (by omega)⟩
        refine ⟨j + 1, some ⟨gb, 0, none⟩, cap', by omega, by go_num, hO6.kept (grown_set _ _ _ _) (.inr (fun e => hb1.1 (Option.some.inj e))), ?_, ?_, ?_, ?_⟩
        · rw [hD5]
          have := X6.out.set5 (max (kidsD (L.take j)) (depthN t) : Nat)
          rw [show ((max (kidsD (L.take j)) (depthN t) : Nat) : Int) = max (kidsD (L.take j) : Int) (depthN t) by omega] at this ⊢
          exact this
        · rw [HW6.out]
          exact ((show NBox w.heap.size (.mk k sb n [] p) none 0 w5 from (hq _ (by omega)).trans HI.out.2.2.1).set (by omega) _ _).set (by omega) _ _
        · rw [HW6.out]
          exact ((show T6 (w.heap.size + 1) 0 ⟨#[]⟩ 0 none 0 0 0 0 w5 from (hq _ (by omega)).trans HI.out.2.2.2.1).set (by omega) _ _).set (by omega) _ _
        · rw [HW6.out]
          exact (hb5.setCell (p := ⟨w.heap.size + 1 + 1, 3, none⟩) (by show w.heap.size ≤ w.heap.size + 1 + 1; omega) _).setCell (p := ⟨w.heap.size + 1 + 1, 5, none⟩) (by show w.heap.size ≤ w.heap.size + 1 + 1; omega) _
      case measure => simp [intOf]; omega
    · have hjl : j = L.length := by omega
      have HT := Lib.hid (show L.take j = L from List.take_of_length_le (by omega))
      have HJ := Lib.hid hjl
      have HX := HI.out.2.1
      rw [HT.out] at HX
      obtain ⟨⟨x0, x1, x2, x3, x4, x5⟩, ⟨f0, f1, f2, f3, f4, f5⟩⟩ := HX.cells
      have hl6 := HX.lt
      have hDk := kidsD_le (L := L) fun e he => HD.out e he
      have HX6 := Lib.hid (HX.set5 ((kidsD L : Int) + 1))
      have HB6 := Lib.hid (HI.out.2.2.2.2.setCell (p := ⟨w.heap.size + 1 + 1, 5, none⟩) (by show w.heap.size ≤ w.heap.size + 1 + 1; omega) (.int .i64 ((kidsD L : Int) + 1)))
      have HN6 := Lib.hid (HI.out.2.2.1.set (c := w.heap.size + 1 + 1) (by omega) 5 (.int .i64 ((kidsD L : Int) + 1)))
      have HZ6 := Lib.hid (HI.out.2.2.2.1.set (c := w.heap.size + 1 + 1) (by omega) 5 (.int .i64 ((kidsD L : Int) + 1)))
      obtain ⟨W6, hW6⟩ : ∃ W, W = wr.setCell ⟨w.heap.size + 1 + 1, 5, none⟩ (.int .i64 ((kidsD L : Int) + 1)) := ⟨_, rfl⟩
      rw [← hW6] at HX6 HB6 HN6 HZ6
      have HE := Lib.hid (show depthN (mkN k s n (L.map (·.1)) p) = kidsD L + 1 by unfold mkN; rw [depthN]; rfl)
      have HE2 := Lib.hid (show depthN (.mk k sb n (L.map (·.1)) p) = kidsD L + 1 by rw [depthN]; rfl)
      clear hjl HX
      have HO6 := Lib.hid (show W6.ownsRow (w.heap.size + 3) 24 5 (.slice a L.length c) L.length (entC L) by
        have := HI.out.1
        rw [HT.out, HJ.out] at this
        rw [hW6]
        exact this.kept (grown_set _ _ _ _) (.inr (fun e => by have := (this.lt _ e).1; omega)))
      have HBx := Lib.hid (show Below w.heap.size w W6 from hW6 ▸ HB6.out)
      go_upto_region 9 with fail
      rw [← hW6]
      clear hW6 x0 x1 x2 x3 x4 x5 f0 f1 f2 f3 f4 f5 hl6
      obtain ⟨⟨x0, x1, x2, x3, x4, x5⟩, -⟩ := HX6.out.cells
      have hl6 := HX6.out.lt
      by_cases hk : 100 < kidsD L + 1
      · have hk' : (100 : Int) < (kidsD L : Int) + 1 := by omega
        have HK := Lib.hid hk
        obtain ⟨⟨-, -, -, -, n4⟩, -⟩ := HN6.out.cells
        have hn6 := HN6.out.lt
        simp only [Nd.place] at n4
        have C3 := Lib.hid (qfail_any P 75 p W6)
        clear hk
        go_wp2_with fail
        (with_reducible refine Calls.mono C3.out ?_)
        rintro e w2 ⟨rfl, rfl⟩
        refine ⟨rfl, HBx.out, ?_⟩
        rw [if_pos (by rw [HE.out]; exact HK.out)]
        rfl
      · have hk' : ¬ (100 : Int) < (kidsD L : Int) + 1 := by omega
        have HK := Lib.hid hk
        obtain ⟨⟨z0, z1, z2, z3, z4, z5⟩, ⟨f0, f1, f2, f3, f4, f5⟩⟩ := HZ6.out.cells
        have hz6 := HZ6.out.lt
        clear hk
        go_wp2_with fail
        refine bodyPost_ret (v := trV (mkN k s n (L.map (·.1)) p) a c) (by simp [results, Tryz.results86, go_sem, trV, mkN, Nd.kind, Nd.text, Nd.n, Nd.kids, Nd.place, z0, z1, z2, z3, z4, z5, HSB.out, HE2.out, HJ.out]) rfl ?_
        have HF := put6_below HBx.out (Nat.le_succ w.heap.size) k sb n a j c p ((kidsD L : Int) + 1)
        have HO7 := HO6.out.kept (put6_grown (b := w.heap.size + 1) W6 k sb n a j c p ((kidsD L : Int) + 1)) (.inr (fun e => by have := (HO6.out.lt _ e).1; omega))
        refine ⟨HF, ?_⟩
        rw [if_neg (by rw [HE.out]; exact HK.out)]
        exact ⟨a, c, rfl, fun av hav hl => lie_own HO7 HF (by omega) hav hl⟩
end Go.Proofs.YtcndknkdhlmdnaaGreatDoor
