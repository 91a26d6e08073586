/-
  causal.Feeds.
-/
import Derived.Test.YtmjclolmoobfpaaDoorCausQ
import Derived.Test.YtmjclolmoobfpaaDoorRefV
import Derived.RangeFuncBox
import Derived.Lib.OwnBridge
import Derived.Laws.EntriesVeiled
namespace Go.Proofs.YtmjclolmoobfpaaDoor
open Go.RowKit Go.Shelf
set_option maxRecDepth 100000
attribute [local go_sem] Oper.semAt_some

/-- the names that have come so far lie in a row of one's own, of which a cell of one's own tells -/
def FAcc (bn : Nat) (w : World) (ts : List Tm) (A : World) : Prop :=
  (∃ v, Boxed A bn 34 v ∧ A.ownsRow (bn + 1) 9 1 v (fedL ts).length ((fedL ts).map encN) ∧ (fedL ts = [] → v = .slice none 0 0)) ∧ Below w.heap.size w A
theorem FAcc.grow {bn : Nat} {w : World} : ∀ ts A A', FAcc bn w ts A → Below A.heap.size A A' → FAcc bn w ts A' := fun _ _ _ ⟨⟨v, h1, h2, h3⟩, h4⟩ hb =>
  ⟨⟨v, (hb.block bn h1.lt).trans h1, own_below h2 hb, h3⟩, h4.trans (hb.mono h4.size)⟩
theorem FAcc.own {bn : Nat} {w : World} {B : Nat} (hB : w.heap.size ≤ B) : OwnFrom B (FAcc bn w) :=
  OwnFrom.and (Own.from (holdsRow_own (bn + 1) bn 34 9 1 (fun ts => (fedL ts).length) (fun ts => (fedL ts).map encN) (fun ts v => fedL ts = [] → v = .slice none 0 0)) _) (ownFrom_below (Nat.le_refl _) hB)
/-- which blocks a round may write: the cell, and rows of texts behind it -/
def fedS (bn : Nat) (k : Nat) (o : Obj) : Prop := k = bn ∨ (bn + 1 ≤ k ∧ strRow o)
theorem fedL_snoc (ts : List Tm) (x : Tm) : fedL (ts ++ [x]) = if x.op = 4 then fedL ts ++ [x.s.data.toList] else fedL ts := by
  unfold fedL
  rw [List.filter_append, List.map_append]
  by_cases h : x.op = 4
  · rw [if_pos h, List.filter_cons_of_pos (by simpa using h)]; rfl
  · rw [if_neg h, List.filter_cons_of_neg (by simpa using h)]; simp
theorem fedL_len (ts : List Tm) : (fedL ts).length ≤ ts.length := by
  unfold fedL; rw [List.length_map]; exact List.length_filter_le _ _
theorem keeps_grown {bn base n : Nat} {v : Value} {zs : List Nm} {A W' : World} (hb : bn + 1 ≤ base) (own : A.ownsRow base 9 1 v n (zs.map encN)) (hz : zs = [] → v = .slice none 0 0) (hg : A.grownBy W' v.ownBlock) : Keeps (fedS bn) A W' := by
  refine ⟨hg.size, fun k o ho hc hs => ?_⟩
  refine (hg.block k (Array.getElem?_eq_some_iff.1 ho).1 ?_).trans ho
  intro e
  refine hs (.inr ?_)
  obtain ⟨hl, ⟨rfl, -⟩ | ⟨g, cap, cur, rfl, h1, h2, h3, h4, h5, h6⟩⟩ := own
  · simp [Value.ownBlock] at e
  · obtain rfl : k = g := by simpa [Value.ownBlock] using e
    rw [h2] at ho
    cases ho
    refine ⟨by omega, ?_⟩
    cases zs with
    | nil => exact absurd (hz rfl) (by simp)
    | cons z zs =>
      refine ⟨cur, _, _, ⟨z.toArray⟩, rfl, ?_⟩
      have hn : 0 < n * 1 := by simp at hl; omega
      have e := congrArg (fun l => l[0]?) h6
      simp only [List.getElem?_take, if_pos hn, Array.getElem?_toList, List.map_cons, List.getElem?_cons_zero] at e
      exact e

set_option maxHeartbeats 2000000 in
theorem Feeds1_any (bn : Nat) (w : World) (hbn : w.heap.size ≤ bn) (ts : List Tm) (x : Tm) (b : Option Addr) (c : Nat) (A : World) (h : FAcc bn w ts A) (hl : ts.length < 2000) (_hz : x.s.size ≤ maxLen) (_wx1 : (Lit.int .i64 x.op).wf = true) (_wx2 : (Lit.int .i64 x.n).wf = true) (_kx3 : x.kids.length ≤ c ∧ c ≤ maxLen) :
    Calls Tryd.prog 30 (#[.agg #[.int .i64 x.op, .int .i64 x.n, .string x.s, .slice b x.kids.length c]] ++ #[.pointer (some ⟨bn, 0, none⟩)]) A fun e A' => (∃ v, e = .returned v) ∧ FAcc bn w (ts ++ [x]) A' ∧ Keeps (fedS bn) A A' ∧ KeepsOthers A A' := by
  show Calls Tryd.prog 30 #[.agg #[.int .i64 x.op, .int .i64 x.n, .string x.s, .slice b x.kids.length c], .pointer (some ⟨bn, 0, none⟩)] A _
  have E := Lib.hid (fedL_snoc ts x)
  have hfl := fedL_len ts
  obtain ⟨⟨v, hbx, hrow, hnil⟩, hB⟩ := h
  have hblt := hbx.lt
  obtain ⟨i0, hi, hz0, hz1, hz2⟩ := info_parts infoS
  have HI := Lib.hid (show _ ∧ _ ∧ _ ∧ _ from ⟨hi, hz0, hz1, hz2⟩)
  clear hi hz0 hz1 hz2
  obtain ⟨A1, hA1⟩ : ∃ A1, A1 = A.alloc (.cells #[.int .i64 x.op, .int .i64 x.n, .string x.s, .slice b x.kids.length c] 24) := ⟨_, rfl⟩
  have hbx1 : Boxed A1 bn 34 v := hA1 ▸ hbx.alloc _
  have hrow1 : A1.ownsRow (bn + 1) 9 1 v (fedL ts).length ((fedL ts).map encN) := hA1 ▸ hrow.alloc _
  have HROW := Lib.hid (hrow.alloc (.cells #[.int .i64 x.op, .int .i64 x.n, .string x.s, .slice b x.kids.length c] 24))
  have hB1 : Below w.heap.size w A1 := hA1 ▸ hB.alloc hB.size _
  have hK1 : Keeps (fedS bn) A A1 := hA1 ▸ (Keeps.refl _ A).alloc _
  have hO1 : KeepsOthers A A1 := hA1 ▸ KeepsOthers.alloc _ _
  have hs1 : A1.heap.size = A.heap.size + 1 := by rw [hA1]; simp
  have HF := Lib.hid (show _ ∧ _ ∧ _ ∧ _ ∧ _ ∧ _ ∧ _ from ⟨hbx1, hrow1, hB1, hK1, hO1, hs1, hnil⟩)
  cases h4 : (x.op == 4)
  · clear hbx hrow hnil hB hbx1 hrow1 hB1 hK1 hO1 hs1
    go_enter Tryd.func30, Tryd.ntmps30
    go_wp2
    go_end0
    rw [← hA1]
    have e : fedL (ts ++ [x]) = fedL ts := by rw [E.out, if_neg (fun h => by rw [h] at h4; cases h4)]
    obtain ⟨h1, h2, h3, h4, h5, -, h7⟩ := HF.out
    exact ⟨⟨_, rfl⟩, ⟨⟨v, h1, by rw [e]; exact h2, by rw [e]; exact h7⟩, h3⟩, h4, h5⟩
  · have hcb : A.cell? ⟨bn, 0, none⟩ = some v := hbx.cell
    have hfb : A.frozen? ⟨bn, 0, none⟩ = false := hbx.frozen
    have hcb1 := hbx1.cell
    have hfb1 := hbx1.frozen
    rw [hA1] at hcb1 hfb1
    clear hbx hrow hnil hB hbx1 hrow1 hB1 hK1 hO1 hs1
    have HA1 := Lib.hid hA1
    clear hA1
    go_enter Tryd.func30, Tryd.ntmps30
    have CN := Lib.hid (show ∀ j u, [Value.string x.s][j]? = some u → ((A.alloc (.cells #[.int .i64 x.op, .int .i64 x.n, .string x.s, .slice b x.kids.length c] 24)).alloc (.cells #[.string x.s] 9)).cell? ((⟨A.heap.size + 1, 0, none⟩ : Addr).add j) = some u from by
      have := cell_one_new (A.alloc (.cells #[.int .i64 x.op, .int .i64 x.n, .string x.s, .slice b x.kids.length c] 24)) (.string x.s) 9
      rw [World.size_alloc] at this
      exact this)
    have HBX := Lib.hid (show Boxed ((A.alloc (.cells #[.int .i64 x.op, .int .i64 x.n, .string x.s, .slice b x.kids.length c] 24)).alloc (.cells #[.string x.s] 9)) bn 34 v from (HA1.out ▸ HF.out.1).alloc _)
    go_wp2_with (at_builtin; refine wpList_append_own _ rfl _ _ 34 rfl (bn + 1) 9 i0 (.string ⟨#[]⟩) 1 16 Tryd.underlying34 HI.out.1 HI.out.2.1 HI.out.2.2.1 HI.out.2.2.2 rfl (by decide) _ _ _ rfl (HROW.out.alloc _) ⟨A.heap.size + 1, 0, none⟩ 1 1 [.string x.s] rfl rfl CN.out (fun u hu => by simp at hu; subst hu; rfl) (by unfold maxLen; omega) (by omega) (by simp; omega) ?_; intro v' w3 hown' hgrow3 _; obtain ⟨g, cap', rfl⟩ := ownsRow_succ hown'; have hb3 : Boxed w3 bn 34 v := HBX.out.kept hgrow3 (HBX.out.not_row (by decide) (HROW.out.alloc _)); have hc3 := hb3.cell; have hf3 := hb3.frozen; have HO3 := Lib.hid hown'; have HG3 := Lib.hid hgrow3; have HB3 := Lib.hid hb3; clear hown' hgrow3 hb3)
    go_end0
    have e : fedL (ts ++ [x]) = fedL ts ++ [x.s.data.toList] := by rw [E.out, if_pos (beq_iff_eq.1 h4)]
    have hx : (fedL ts ++ [x.s.data.toList]).map encN = (fedL ts).map encN ++ [.string x.s] := by rw [List.map_append]; rfl
    obtain ⟨h1, h2, h3, h4', h5, h6, h7⟩ := HF.out
    have hlt : ∀ r, v.ownBlock = some r → bn + 1 ≤ r := fun r hr => (h2.lt r hr).1
    refine ⟨⟨_, rfl⟩, ⟨⟨_, HB3.out.set _, ?_, fun hn => by rw [e] at hn; simp at hn⟩, ?_⟩, ?_, ?_⟩
    · rw [e, List.length_append, hx]
      exact HO3.out.kept (grownBy_setCell' w3 bn _) (.inr (HB3.out.not_row (by decide) HO3.out).symm)
    · have hA2 : Below w.heap.size w ((A.alloc (.cells #[.int .i64 x.op, .int .i64 x.n, .string x.s, .slice b x.kids.length c] 24)).alloc (.cells #[.string x.s] 9)) := by
        rw [← HA1.out]; exact h3.alloc h3.size _
      exact (hA2.grown HG3.out hA2.size (fun r hr => by have := hlt r hr; omega)).setCell (p := ⟨bn, 0, none⟩) hbn _
    · have hK : Keeps (fedS bn) A ((A.alloc (.cells #[.int .i64 x.op, .int .i64 x.n, .string x.s, .slice b x.kids.length c] 24)).alloc (.cells #[.string x.s] 9)) := by
        rw [← HA1.out]; exact h4'.alloc _
      exact (hK.trans (keeps_grown (Nat.le_refl _) (HROW.out.alloc _) h7 HG3.out)).setCell (p := ⟨bn, 0, none⟩) (fun _ => .inl rfl) _
    · refine ((KeepsOthers.trans ?_ (KeepsOthers.alloc _ _)).trans (KeepsOthers.of_grownBy HG3.out fun j o ej hj => ?_)).trans (KeepsOthers.setCell _ _ _)
      · rw [← HA1.out]; exact h5
      · obtain ⟨-, ⟨rfl, -⟩ | ⟨g', cap'', cur, rfl, -, hg, -⟩⟩ := HROW.out.alloc (.cells #[.string x.s] 9)
        · cases (show (none : Option Nat) = some j from ej)
        · obtain rfl : g' = j := Option.some.inj (show some g' = some j from ej)
          rw [hg] at hj; cases hj; rfl

end Go.Proofs.YtmjclolmoobfpaaDoor
