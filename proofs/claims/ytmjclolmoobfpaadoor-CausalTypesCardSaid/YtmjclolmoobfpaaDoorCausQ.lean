/-
  causal.Size, Horizon.
-/
import Derived.Test.YtmjclolmoobfpaaDoorCausP
namespace Go.Proofs.YtmjclolmoobfpaaDoor
open Go.RowKit Go.Shelf
set_option maxRecDepth 100000
attribute [local go_sem] Oper.semAt_some

/-- a number that is reckoned over terms lies in a cell of one's own -/
def Acc (F : List Tm → Int) (bn : Nat) (w : World) (ts : List Tm) (A : World) : Prop :=
  (A.cell? ⟨bn, 0, none⟩ = some (.int .i64 (F ts)) ∧ A.frozen? ⟨bn, 0, none⟩ = false) ∧ Below w.heap.size w A
theorem Acc.grow {F : List Tm → Int} {bn : Nat} {w : World} : ∀ ts A A', Acc F bn w ts A → Below A.heap.size A A' → Acc F bn w ts A' := fun _ _ _ h hb =>
  ⟨⟨(hb.cell (p := ⟨bn, 0, none⟩) (cell_lt h.1.1)).trans h.1.1, (hb.frozen (p := ⟨bn, 0, none⟩) (cell_lt h.1.1)).trans h.1.2⟩, h.2.trans (hb.mono h.2.size)⟩
theorem Acc.own {F : List Tm → Int} {bn : Nat} {w : World} {B : Nat} (hB : w.heap.size ≤ B) : OwnFrom B (Acc F bn w) :=
  OwnFrom.and (Own.from (fun _ _ _ _ hs hg hr => ⟨cell_kept hs.1 hg hr, (frozen_kept hs.1 hg hr).trans hs.2⟩) _) (ownFrom_below (Nat.le_refl _) hB)

theorem Acc.write {F : List Tm → Int} {bn : Nat} {w : World} {ts : List Tm} {x : Tm} {A : World} (h : Acc F bn w ts A) (hbn : w.heap.size ≤ bn) (o : Obj) {v : Int} (hv : F (ts ++ [x]) = v) :
    Acc F bn w (ts ++ [x]) ((A.setCell ⟨bn, 0, none⟩ (.int .i64 v)).alloc o) ∧ Keeps (fun k _ => k = bn) A ((A.setCell ⟨bn, 0, none⟩ (.int .i64 v)).alloc o) ∧ KeepsOthers A ((A.setCell ⟨bn, 0, none⟩ (.int .i64 v)).alloc o) := by
  subst hv
  obtain ⟨⟨hc, hf⟩, hB⟩ := h
  have hc1 := World.cell?_setCell_same' A ⟨bn, 0, none⟩ (.int .i64 (F (ts ++ [x]))) (by rw [hc]; rfl)
  have hB1 := hB.setCell (p := ⟨bn, 0, none⟩) hbn (.int .i64 (F (ts ++ [x])))
  exact ⟨⟨⟨cell_alloc' _ hc1, frozen_alloc' _ hc1 (by rw [World.frozen?_setCell]; exact hf)⟩, hB1.alloc hB1.size _⟩, ((Keeps.refl (fun k _ => k = bn) A).setCell (p := ⟨bn, 0, none⟩) (fun _ => rfl) _).alloc _, (KeepsOthers.setCell _ _ _).trans (KeepsOthers.alloc _ _)⟩
theorem Acc.leave {F : List Tm → Int} {bn : Nat} {w : World} {ts : List Tm} {x : Tm} {A : World} (h : Acc F bn w ts A) (o : Obj) (hv : F (ts ++ [x]) = F ts) :
    Acc F bn w (ts ++ [x]) (A.alloc o) ∧ Keeps (fun k _ => k = bn) A (A.alloc o) ∧ KeepsOthers A (A.alloc o) := by
  obtain ⟨⟨hc, hf⟩, hB⟩ := h
  refine ⟨⟨⟨?_, frozen_alloc' _ hc hf⟩, hB.alloc hB.size _⟩, (Keeps.refl _ A).alloc _, KeepsOthers.alloc _ _⟩
  rw [hv]
  exact cell_alloc' _ hc

def lenF (ts : List Tm) : Int := wrap64 ts.length
theorem lenF_nil : lenF [] = 0 := by unfold lenF wrap64; simp

set_option maxHeartbeats 1000000 in
theorem Size1_any (bn : Nat) (w : World) (hbn : w.heap.size ≤ bn) (ts : List Tm) (x : Tm) (b : Option Addr) (c : Nat) (A : World) (h : Acc lenF bn w ts A) (_hl : ts.length < 2000) (_hz : x.s.size ≤ maxLen) (_wx1 : (Lit.int .i64 x.op).wf = true) (_wx2 : (Lit.int .i64 x.n).wf = true) (_kx3 : x.kids.length ≤ c ∧ c ≤ maxLen) :
    Calls Tryd.prog 23 (#[.agg #[.int .i64 x.op, .int .i64 x.n, .string x.s, .slice b x.kids.length c]] ++ #[.pointer (some ⟨bn, 0, none⟩)]) A fun e A' => (∃ v, e = .returned v) ∧ Acc lenF bn w (ts ++ [x]) A' ∧ Keeps (fun k _ => k = bn) A A' ∧ KeepsOthers A A' := by
  show Calls Tryd.prog 23 #[.agg #[.int .i64 x.op, .int .i64 x.n, .string x.s, .slice b x.kids.length c], .pointer (some ⟨bn, 0, none⟩)] A _
  clear _hl _hz
  have HA := Lib.hid h
  obtain ⟨⟨hc, hf⟩, hB⟩ := h
  have hl := cell_lt hc
  clear hB
  go_enter Tryd.func23, Tryd.ntmps23
  go_wp2
  go_end0
  exact ⟨⟨_, rfl⟩, HA.out.write hbn _ (by unfold lenF; rw [List.length_append, List.length_singleton]; unfold wrap64; omega)⟩

/-- the last day that terms name -/
def lastS (m : Int) (x : Tm) : Int := if x.op = 29 ∨ x.op = 30 ∨ x.op = 31 then max m x.n else m
def lastF (ts : List Tm) : Int := ts.foldl lastS 0
theorem lastF_snoc (ts : List Tm) (x : Tm) : lastF (ts ++ [x]) = lastS (lastF ts) x := by simp [lastF]

set_option maxHeartbeats 2000000 in
theorem Horizon1_any (bn : Nat) (w : World) (hbn : w.heap.size ≤ bn) (ts : List Tm) (x : Tm) (b : Option Addr) (c : Nat) (A : World) (h : Acc lastF bn w ts A) (_hl : ts.length < 2000) (_hz : x.s.size ≤ maxLen) (_wx1 : (Lit.int .i64 x.op).wf = true) (_wx2 : (Lit.int .i64 x.n).wf = true) (_kx3 : x.kids.length ≤ c ∧ c ≤ maxLen) :
    Calls Tryd.prog 24 (#[.agg #[.int .i64 x.op, .int .i64 x.n, .string x.s, .slice b x.kids.length c]] ++ #[.pointer (some ⟨bn, 0, none⟩)]) A fun e A' => (∃ v, e = .returned v) ∧ Acc lastF bn w (ts ++ [x]) A' ∧ Keeps (fun k _ => k = bn) A A' ∧ KeepsOthers A A' := by
  show Calls Tryd.prog 24 #[.agg #[.int .i64 x.op, .int .i64 x.n, .string x.s, .slice b x.kids.length c], .pointer (some ⟨bn, 0, none⟩)] A _
  clear _hl _hz
  have HA := Lib.hid h
  obtain ⟨⟨hc, hf⟩, hB⟩ := h
  have hl := cell_lt hc
  clear hB
  go_enter Tryd.func24, Tryd.ntmps24
  go_wp2
  all_goals go_end0
  · exact ⟨⟨_, rfl⟩, HA.out.write hbn _ (by rw [lastF_snoc, lastS, if_pos (by omega)])⟩
  · exact ⟨⟨_, rfl⟩, HA.out.write hbn _ (by rw [lastF_snoc, lastS, if_pos (by omega)])⟩
  · rename_i g1 g2 g3
    have g : x.op = 29 ∨ x.op = 30 ∨ x.op = 31 := by simp only [beq_iff_eq] at g3; omega
    exact ⟨⟨_, rfl⟩, HA.out.write hbn _ (by rw [lastF_snoc, lastS, if_pos g])⟩
  · rename_i g1 g2 g3
    have g : ¬ (x.op = 29 ∨ x.op = 30 ∨ x.op = 31) := by simp only [beq_eq_false_iff_ne] at g3; omega
    exact ⟨⟨_, rfl⟩, HA.out.leave _ (by rw [lastF_snoc, lastS, if_neg g])⟩

mutual
theorem terms_length : ∀ t : Tm, t.terms.length = t.count
  | .mk _ _ _ ks => by rw [Tm.terms, Tm.count, List.length_cons, termss_length ks]; omega
theorem termss_length : ∀ ks : List Tm, (termss ks).length = counts ks
  | [] => by rw [termss, counts]; rfl
  | k :: ks => by rw [termss, counts, List.length_append, terms_length k, termss_length ks]
end
theorem small_of_right {t : Tm} (h : rightB t = true) : t.count ≤ 2000 ∧ t.tall ≤ 200 := by
  unfold rightB at h
  rw [Bool.and_eq_true] at h
  exact of_decide_eq_true h.1
/-- how many terms a right term has -/
def sizeB (t : Tm) : Int := if rightB t then (t.count : Int) else 0
/-- the last day that a right term names -/
def horizonB (t : Tm) : Int := if rightB t then lastF t.terms else 0

set_option maxHeartbeats 2000000 in
theorem Size_any (t : Tm) (a : Option Addr) (cap : Nat) (w : World) (h : t.hold w.heap.size w a cap) (he : Env w) :
    Calls Tryd.prog 8 #[.agg #[.int .i64 t.op, .int .i64 t.n, .string t.s, .slice a t.kids.length cap]] w fun e W' => e = .returned (.int .i64 (sizeB t)) ∧ Below w.heap.size w W' := by
  have kk := h.bounds
  have wk1 := kk.1
  have wk2 := kk.2.1
  have kk3 := kk.2.2.2
  obtain ⟨W1, hW1⟩ : ∃ W1, W1 = (w.alloc (.cells #[.int .i64 t.op, .int .i64 t.n, .string t.s, .slice a t.kids.length cap] 24)).alloc (.cells #[.int .i64 0] 3) := ⟨_, rfl⟩
  have hB1 : Below w.heap.size w W1 := hW1 ▸ ((Below.refl _ w).alloc (Nat.le_refl _) _).alloc (by simp) _
  have hsz : W1.heap.size = w.heap.size + 2 := by rw [hW1]; simp
  obtain ⟨x0, x1, x2, x3⟩ : W1.cell? ⟨w.heap.size, 0, none⟩ = some (.int .i64 t.op) ∧ W1.cell? ⟨w.heap.size, 1, none⟩ = some (.int .i64 t.n) ∧ W1.cell? ⟨w.heap.size, 2, none⟩ = some (.string t.s) ∧ W1.cell? ⟨w.heap.size, 3, none⟩ = some (.slice a t.kids.length cap) := by
    have c := cell_box w (.int .i64 t.op) (.int .i64 t.n) (.string t.s) (.slice a t.kids.length cap)
    rw [hW1]
    exact ⟨cell_alloc' _ c.1, cell_alloc' _ c.2.1, cell_alloc' _ c.2.2.1, cell_alloc' _ c.2.2.2⟩
  have e1 : Acc lenF (w.heap.size + 1) w [] W1 := by
    have z : lenF [] = 0 := lenF_nil
    unfold Acc
    rw [z]
    have c := cell_new (w.alloc (.cells #[.int .i64 t.op, .int .i64 t.n, .string t.s, .slice a t.kids.length cap] 24)) (.int .i64 0) 3
    simp only [World.size_alloc] at c
    exact ⟨by rw [hW1]; exact c, hB1⟩
  have hE := each_in 23 #[.pointer (some ⟨w.heap.size + 1, 0, none⟩)] (Acc lenF (w.heap.size + 1) w) (fun k _ => k = w.heap.size + 1) (enters_of Tryd.func23 (by kernel_rfl) rfl) w.heap.size t a cap W1 (h.below hB1) hB1.size (he.below hB1 he.size)
    (fun k hk _ e => by omega) (fun k _ e => .inl (by omega)) Acc.grow (Acc.own hB1.size) (Size1_any (w.heap.size + 1) w (by omega)) e1
  rw [hW1] at x0 x1 x2 x3
  clear h he kk
  go_enter Tryd.func8, Tryd.ntmps8
  go_wp2_with (go_at_call 22; rw [← hW1]; refine hE.mono ?_; clear hE; rintro e w' ⟨⟨v, rfl⟩, ⟨hc, hf⟩, hb⟩; obtain ⟨y, hy⟩ : ∃ y, y = lenF (if rightB t = true then t.terms else []) := ⟨_, rfl⟩; rw [← hy] at hc; have HY := Lib.hid hy; clear hy)
  go_ret
  refine ⟨ret_int (HY.out.trans ?_), hb⟩
  unfold sizeB
  by_cases hr : rightB t = true
  · have := small_of_right hr
    rw [if_pos hr, if_pos hr]
    unfold lenF
    rw [terms_length]
    unfold wrap64
    omega
  · rw [if_neg hr, if_neg hr]
    exact lenF_nil

set_option maxHeartbeats 2000000 in
theorem Horizon_any (t : Tm) (a : Option Addr) (cap : Nat) (w : World) (h : t.hold w.heap.size w a cap) (he : Env w) :
    Calls Tryd.prog 9 #[.agg #[.int .i64 t.op, .int .i64 t.n, .string t.s, .slice a t.kids.length cap]] w fun e W' => e = .returned (.int .i64 (horizonB t)) ∧ Below w.heap.size w W' := by
  have kk := h.bounds
  have wk1 := kk.1
  have wk2 := kk.2.1
  have kk3 := kk.2.2.2
  obtain ⟨W1, hW1⟩ : ∃ W1, W1 = (w.alloc (.cells #[.int .i64 t.op, .int .i64 t.n, .string t.s, .slice a t.kids.length cap] 24)).alloc (.cells #[.int .i64 0] 3) := ⟨_, rfl⟩
  have hB1 : Below w.heap.size w W1 := hW1 ▸ ((Below.refl _ w).alloc (Nat.le_refl _) _).alloc (by simp) _
  have hsz : W1.heap.size = w.heap.size + 2 := by rw [hW1]; simp
  obtain ⟨x0, x1, x2, x3⟩ : W1.cell? ⟨w.heap.size, 0, none⟩ = some (.int .i64 t.op) ∧ W1.cell? ⟨w.heap.size, 1, none⟩ = some (.int .i64 t.n) ∧ W1.cell? ⟨w.heap.size, 2, none⟩ = some (.string t.s) ∧ W1.cell? ⟨w.heap.size, 3, none⟩ = some (.slice a t.kids.length cap) := by
    have c := cell_box w (.int .i64 t.op) (.int .i64 t.n) (.string t.s) (.slice a t.kids.length cap)
    rw [hW1]
    exact ⟨cell_alloc' _ c.1, cell_alloc' _ c.2.1, cell_alloc' _ c.2.2.1, cell_alloc' _ c.2.2.2⟩
  have e1 : Acc lastF (w.heap.size + 1) w [] W1 := by
    have z : lastF [] = 0 := rfl
    unfold Acc
    rw [z]
    have c := cell_new (w.alloc (.cells #[.int .i64 t.op, .int .i64 t.n, .string t.s, .slice a t.kids.length cap] 24)) (.int .i64 0) 3
    simp only [World.size_alloc] at c
    exact ⟨by rw [hW1]; exact c, hB1⟩
  have hE := each_in 24 #[.pointer (some ⟨w.heap.size + 1, 0, none⟩)] (Acc lastF (w.heap.size + 1) w) (fun k _ => k = w.heap.size + 1) (enters_of Tryd.func24 (by kernel_rfl) rfl) w.heap.size t a cap W1 (h.below hB1) hB1.size (he.below hB1 he.size)
    (fun k hk _ e => by omega) (fun k _ e => .inl (by omega)) Acc.grow (Acc.own hB1.size) (Horizon1_any (w.heap.size + 1) w (by omega)) e1
  rw [hW1] at x0 x1 x2 x3
  clear h he kk
  go_enter Tryd.func9, Tryd.ntmps9
  go_wp2_with (go_at_call 22; rw [← hW1]; refine hE.mono ?_; clear hE; rintro e w' ⟨⟨v, rfl⟩, ⟨hc, hf⟩, hb⟩; obtain ⟨y, hy⟩ : ∃ y, y = lastF (if rightB t = true then t.terms else []) := ⟨_, rfl⟩; rw [← hy] at hc; have HY := Lib.hid hy; clear hy)
  go_ret
  refine ⟨ret_int (HY.out.trans ?_), hb⟩
  unfold horizonB
  by_cases hr : rightB t = true
  · rw [if_pos hr, if_pos hr]
  · rw [if_neg hr, if_neg hr]
    rfl

end Go.Proofs.YtmjclolmoobfpaaDoor
