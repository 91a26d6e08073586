/-
  The walk of causal.letter: a term's type, by its letter.
-/
import Derived.Test.YtmjclolmoobfpaaDoorCausF
import Derived.WalkSmall
namespace Go.Proofs.YtmjclolmoobfpaaDoor
open Go.RowKit
set_option maxRecDepth 100000

/-- the library's variable holds a number -/
def Env (w : World) : Prop := ∃ m, w.cell? ⟨0, 0, none⟩ = some (.int .i64 m)
theorem Env.below {w w' : World} (h : Env w) {B : Nat} (hb : Below B w w') (hB : 0 < B) : Env w' := by
  obtain ⟨m, hm⟩ := h
  exact ⟨m, (hb.cell (p := ⟨0, 0, none⟩) hB).trans hm⟩
theorem Env.size {w : World} (h : Env w) : 0 < w.heap.size := by
  obtain ⟨m, hm⟩ := h
  rcases Nat.lt_or_ge 0 w.heap.size with g | g
  · exact g
  · have : w.heap[0]? = none := Array.getElem?_eq_none g
    simp [World.cell?, this] at hm

/-- an operation's kids' letters, its own, and whether it is one -/
def kidsL (op : Int) : List UInt8 := (Lib.cut (sortL op) [62]).1
def ownL (op : Int) : List UInt8 := (Lib.cut (sortL op) [62]).2.1
def okL (op : Int) : Bool := (Lib.cut (sortL op) [62]).2.2
theorem sort_len (op : Int) : (sortL op).length ≤ 10 := by
  unfold sortL
  split
  · exact Nat.zero_le _
  · have : ∀ l ∈ sortTab, l.length ≤ 10 := by decide
    rw [List.getD_eq_getElem?_getD]
    cases h : sortTab[op.toNat]? with
    | none => exact Nat.zero_le _
    | some l => exact this l (List.mem_of_getElem? h)
theorem cut_any (op : Int) (w : World) (he : Hid (Env w)) :
    Calls Tryd.prog 35 #[.string ⟨(sortL op).toArray⟩, .string ⟨#[62]⟩] w fun e w' => e = .returned (.tuple #[.string ⟨(kidsL op).toArray⟩, .string ⟨(ownL op).toArray⟩, .bool (okL op)]) ∧ ∃ n, w' = w.drewN n := by
  obtain ⟨m, hm⟩ := he.out
  have := sort_len op
  exact Tryd.strings_Cut ⟨(sortL op).toArray⟩ ⟨#[62]⟩ m w (by show (sortL op).toArray.size < _; simp; omega) hm

mutual
/-- a term's type, by its letter; 0: it is not right -/
def letterB : Tm → Int
  | .mk op n s ks => if okL op = true ∧ (kidsL op).length = ks.length ∧ fieldsB op n s.data.toList = true then
      match lettersB ks (kidsL op) 0 with
      | none => 0
      | some x => if ownL op = [120] then x else ((ownL op).headD 0).toNat
    else 0
def lettersB : List Tm → List UInt8 → Int → Option Int
  | [], _, x => some x
  | _ :: _, [], _ => none
  | k :: ks, c :: cs, x =>
    if letterB k = 0 then none
    else if (c.toNat : Int) = 120 ∧ letterB k ≠ 99 ∧ (x = 0 ∨ x = letterB k) then lettersB ks cs (letterB k)
    else if (c.toNat : Int) ≠ letterB k then none
    else lettersB ks cs x
end

theorem cell_box (w : World) (x0 x1 x2 x3 : Value) : (w.alloc (.cells #[x0, x1, x2, x3] 24)).cell? ⟨w.heap.size, 0, none⟩ = some x0 ∧ (w.alloc (.cells #[x0, x1, x2, x3] 24)).cell? ⟨w.heap.size, 1, none⟩ = some x1 ∧
    (w.alloc (.cells #[x0, x1, x2, x3] 24)).cell? ⟨w.heap.size, 2, none⟩ = some x2 ∧ (w.alloc (.cells #[x0, x1, x2, x3] 24)).cell? ⟨w.heap.size, 3, none⟩ = some x3 := by
  refine ⟨?_, ?_, ?_, ?_⟩ <;> simp

theorem letter_eq {op n : Int} {s : ByteArray} {ks : List Tm} (h1 : okL op = true) (h2 : (kidsL op).length = ks.length) (h3 : fieldsB op n s.data.toList = true) :
    letterB (.mk op n s ks) = match lettersB ks (kidsL op) 0 with
      | none => 0
      | some x => if ownL op = [120] then x else ((ownL op).headD 0).toNat := by
  rw [letterB, if_pos ⟨h1, h2, h3⟩]

theorem kid_size {op n : Int} {s : ByteArray} {ks : List Tm} {N k : Nat} (hk : k < ks.length) (h : SizeOf.sizeOf (Tm.mk op n s ks) < N + 1) : SizeOf.sizeOf ks[k] < N := by
  have := List.sizeOf_lt_of_mem (List.getElem_mem hk)
  simp only [Tm.mk.sizeOf_spec] at h
  omega

theorem lettersB_range : ∀ (ks : List Tm) (cs : List UInt8) (x y : Int), (∀ k ∈ ks, 0 ≤ letterB k ∧ letterB k < 256) → 0 ≤ x → x < 256 → lettersB ks cs x = some y → 0 ≤ y ∧ y < 256
  | [], _, x, y, _, h0, h1, h => by
    rw [lettersB] at h
    cases h
    exact ⟨h0, h1⟩
  | _ :: _, [], _, _, _, _, _, h => by rw [lettersB] at h; cases h
  | k :: ks, c :: cs, x, y, hk, h0, h1, h => by
    have g := fun q (hq : q ∈ ks) => hk q (List.mem_cons_of_mem _ hq)
    have g0 := hk k (List.mem_cons_self ..)
    rw [lettersB] at h
    split at h
    · cases h
    · split at h
      · exact lettersB_range ks cs _ y g g0.1 g0.2 h
      · split at h
        · cases h
        · exact lettersB_range ks cs _ y g h0 h1 h
theorem letterB_range' (N : Nat) : ∀ t : Tm, SizeOf.sizeOf t < N → 0 ≤ letterB t ∧ letterB t < 256 := by
  induction N with
  | zero => intro t h; omega
  | succ N ih =>
    intro t h
    cases t with
    | mk op n s ks =>
    have hk : ∀ k ∈ ks, 0 ≤ letterB k ∧ letterB k < 256 := by
      intro k hk
      obtain ⟨i, hi, rfl⟩ := List.getElem_of_mem hk
      exact ih _ (kid_size hi h)
    rw [letterB]
    split
    · split
      · exact ⟨by omega, by omega⟩
      · rename_i x hx
        split
        · exact lettersB_range ks _ 0 x hk (by omega) (by omega) hx
        · have := UInt8.toNat_lt ((ownL op).headD 0)
          exact ⟨by omega, by omega⟩
    · exact ⟨by omega, by omega⟩
theorem letterB_range (t : Tm) : 0 ≤ letterB t ∧ letterB t < 256 := letterB_range' _ t (Nat.lt_succ_self _)
theorem lettersB_step (ks : List Tm) (cs : List UInt8) (k : Nat) (hk : k < ks.length) (hc : k < cs.length) (y : Int) :
    lettersB (ks.drop k) (cs.drop k) y = if letterB ks[k] = 0 then none
      else if ((cs[k]).toNat : Int) = 120 ∧ letterB ks[k] ≠ 99 ∧ (y = 0 ∨ y = letterB ks[k]) then lettersB (ks.drop (k+1)) (cs.drop (k+1)) (letterB ks[k])
      else if ((cs[k]).toNat : Int) ≠ letterB ks[k] then none
      else lettersB (ks.drop (k+1)) (cs.drop (k+1)) y := by
  rw [List.drop_eq_getElem_cons hk, List.drop_eq_getElem_cons hc, lettersB]
theorem lettersB_end (ks : List Tm) (cs : List UInt8) (k : Nat) (hk : ¬ k < ks.length) (y : Int) : lettersB (ks.drop k) (cs.drop k) y = some y := by
  rw [List.drop_of_length_le (by omega), lettersB]

theorem way_none {α : Type} {l c y : Int} {L A B : Option α} (S : L = if l = 0 then none else if c = 120 ∧ l ≠ 99 ∧ (y = 0 ∨ y = l) then A else if c ≠ l then none else B)
    (h : l = 0 ∨ (¬ (c = 120 ∧ l ≠ 99 ∧ (y = 0 ∨ y = l)) ∧ c ≠ l)) : L = none := by
  rw [S]
  rcases h with h | ⟨h, h'⟩
  · rw [if_pos h]
  · rw [if_neg h, if_pos h']
    split <;> rfl
theorem way_set {α : Type} {l c y : Int} {L A B : Option α} (S : L = if l = 0 then none else if c = 120 ∧ l ≠ 99 ∧ (y = 0 ∨ y = l) then A else if c ≠ l then none else B)
    (h : l ≠ 0 ∧ c = 120 ∧ l ≠ 99 ∧ (y = 0 ∨ y = l)) : A = L := by
  rw [S, if_neg h.1, if_pos h.2]
theorem way_go {α : Type} {l c y : Int} {L A B : Option α} (S : L = if l = 0 then none else if c = 120 ∧ l ≠ 99 ∧ (y = 0 ∨ y = l) then A else if c ≠ l then none else B)
    (h : l ≠ 0 ∧ ¬ (c = 120 ∧ l ≠ 99 ∧ (y = 0 ∨ y = l)) ∧ c = l) : B = L := by
  rw [S, if_neg h.1, if_neg h.2.1, if_neg (by simpa using h.2.2)]

theorem own_pos (op : Int) (h : okL op = true) : 0 < (ownL op).length := by
  have e : (Lib.cut [] [62]).2.2 = false := by decide
  have hl : ∀ l ∈ sortTab, (Lib.cut l [62]).2.2 = true → 0 < (Lib.cut l [62]).2.1.length := by decide
  unfold okL sortL at h
  unfold ownL sortL
  split at h
  · rw [e] at h; cases h
  · rename_i g
    rw [if_neg g]
    rw [List.getD_eq_getElem?_getD] at h ⊢
    cases h' : sortTab[op.toNat]? with
    | none => rw [h'] at h; exact absurd (e.symm.trans h) (by decide)
    | some l => rw [h'] at h; exact hl l (List.mem_of_getElem? h') h

theorem head_byte : ∀ (l : List UInt8) (h : 0 < l.length), ((({ data := l.toArray } : ByteArray)[0]'(by show 0 < l.toArray.size; rw [List.size_toArray]; exact h)).toNat : Int) = ((l.headD 0).toNat : Int)
  | [], h => absurd h (by simp)
  | _ :: _, _ => rfl

set_option maxHeartbeats 4000000 in
theorem letter_any' (N : Nat) : ∀ (t : Tm), SizeOf.sizeOf t < N → ∀ (a : Option Addr) (cap n₀ : Nat) (w : World), t.hold n₀ w a cap → n₀ ≤ w.heap.size → Env w →
    Calls Tryd.prog 20 #[.agg #[.int .i64 t.op, .int .i64 t.n, .string t.s, .slice a t.kids.length cap]] w fun e w' => e = .returned (.int .u8 (letterB t)) ∧ Below w.heap.size w w' := by
  induction N with
  | zero => intro t ht; omega
  | succ N ih =>
  intro t ht
  cases t with
  | mk op n s ks =>
  intro a cap n₀ w hh hn he
  show Calls Tryd.prog 20 #[.agg #[.int .i64 op, .int .i64 n, .string s, .slice a ks.length cap]] w _
  have hs : s.size ≤ maxLen := hh.2.2.1
  have hkl : ks.length ≤ cap ∧ cap ≤ maxLen := ⟨hh.2.2.2.1, hh.2.2.2.2.1⟩
  have hm := hkl
  unfold maxLen at hm
  have HH := Lib.hid hh
  have HE := Lib.hid he
  have IH := Lib.hid ih
  have HT := Lib.hid ht
  clear hh he ih ht
  have HB : Hid (Below w.heap.size w (w.alloc (.cells #[.int .i64 op, .int .i64 n, .string s, .slice a ks.length cap] 24))) := below1 _ _
  cases ho : okL op
  · have e := Lib.hid (show letterB (.mk op n s ks) = 0 by unfold letterB; rw [if_neg]; rw [ho]; exact fun h => by cases h.1)
    go_enter Tryd.func20, Tryd.ntmps20
    go_wp2_with (first | (go_at_call 36; refine (sort_any _ _).mono ?_; rintro e w' ⟨rfl, hb⟩; have HC := Lib.hid (show w.heap.size < w'.heap.size by have := hb.size; simp at this; omega); have d0 := (hb.cell (p := ⟨w.heap.size, 0, none⟩) (by simp)).trans (cell_box w _ _ _ _).1; have d1 := (hb.cell (p := ⟨w.heap.size, 1, none⟩) (by simp)).trans (cell_box w _ _ _ _).2.1; have d2 := (hb.cell (p := ⟨w.heap.size, 2, none⟩) (by simp)).trans (cell_box w _ _ _ _).2.2.1; have d3 := (hb.cell (p := ⟨w.heap.size, 3, none⟩) (by simp)).trans (cell_box w _ _ _ _).2.2.2; replace HB := Lib.hid (HB.out.trans (hb.mono HB.out.size)); clear hb) | (go_at_call 35; refine (cut_any _ _ (Lib.hid (HE.out.below HB.out HE.out.size))).mono ?_; rintro e w' ⟨rfl, nd, rfl⟩; replace HB := Lib.hid (Go.below_drewN HB.out nd)) | (go_at_call 37; refine (fields_any _ _ _ _ _ _ _ hs).mono ?_; rintro e w' ⟨rfl, hb⟩; have d3' := d3; have d3 := (hb.cell (p := ⟨w.heap.size, 3, none⟩) (HC.out)).trans d3'; clear d3'; replace HB := Lib.hid (HB.out.trans (hb.mono HB.out.size)); clear hb))
    go_ret
    exact ⟨ret_int e.out.symm, HB.out⟩
  by_cases hl : (kidsL op).length = ks.length
  · cases hf : fieldsB op n s.data.toList
    · have e := Lib.hid (show letterB (.mk op n s ks) = 0 by unfold letterB; rw [if_neg]; rw [hf]; exact fun h => by cases h.2.2)
      go_enter Tryd.func20, Tryd.ntmps20
      go_wp2_with (first | (go_at_call 36; refine (sort_any _ _).mono ?_; rintro e w' ⟨rfl, hb⟩; have HC := Lib.hid (show w.heap.size < w'.heap.size by have := hb.size; simp at this; omega); have d0 := (hb.cell (p := ⟨w.heap.size, 0, none⟩) (by simp)).trans (cell_box w _ _ _ _).1; have d1 := (hb.cell (p := ⟨w.heap.size, 1, none⟩) (by simp)).trans (cell_box w _ _ _ _).2.1; have d2 := (hb.cell (p := ⟨w.heap.size, 2, none⟩) (by simp)).trans (cell_box w _ _ _ _).2.2.1; have d3 := (hb.cell (p := ⟨w.heap.size, 3, none⟩) (by simp)).trans (cell_box w _ _ _ _).2.2.2; replace HB := Lib.hid (HB.out.trans (hb.mono HB.out.size)); clear hb) | (go_at_call 35; refine (cut_any _ _ (Lib.hid (HE.out.below HB.out HE.out.size))).mono ?_; rintro e w' ⟨rfl, nd, rfl⟩; replace HB := Lib.hid (Go.below_drewN HB.out nd)) | (go_at_call 37; refine (fields_any _ _ _ _ _ _ _ hs).mono ?_; rintro e w' ⟨rfl, hb⟩; have d3' := d3; have d3 := (hb.cell (p := ⟨w.heap.size, 3, none⟩) (HC.out)).trans d3'; clear d3'; replace HB := Lib.hid (HB.out.trans (hb.mono HB.out.size)); clear hb))
      go_ret
      exact ⟨ret_int e.out.symm, HB.out⟩
    · have E := Lib.hid (letter_eq (n := n) (s := s) ho hl hf)
      have HL := Lib.hid hl
      go_enter Tryd.func20, Tryd.ntmps20
      go_wp2_with (first | (go_at_call 36; refine (sort_any _ _).mono ?_; rintro e w' ⟨rfl, hb⟩; have HC := Lib.hid (show w.heap.size < w'.heap.size by have := hb.size; simp at this; omega); have d0 := (hb.cell (p := ⟨w.heap.size, 0, none⟩) (by simp)).trans (cell_box w _ _ _ _).1; have d1 := (hb.cell (p := ⟨w.heap.size, 1, none⟩) (by simp)).trans (cell_box w _ _ _ _).2.1; have d2 := (hb.cell (p := ⟨w.heap.size, 2, none⟩) (by simp)).trans (cell_box w _ _ _ _).2.2.1; have d3 := (hb.cell (p := ⟨w.heap.size, 3, none⟩) (by simp)).trans (cell_box w _ _ _ _).2.2.2; replace HB := Lib.hid (HB.out.trans (hb.mono HB.out.size)); clear hb) | (go_at_call 35; refine (cut_any _ _ (Lib.hid (HE.out.below HB.out HE.out.size))).mono ?_; rintro e w' ⟨rfl, nd, rfl⟩; replace HB := Lib.hid (Go.below_drewN HB.out nd)) | (go_at_call 37; refine (fields_any _ _ _ _ _ _ _ hs).mono ?_; rintro e w' ⟨rfl, hb⟩; have d3' := d3; have d3 := (hb.cell (p := ⟨w.heap.size, 3, none⟩) (HC.out)).trans d3'; clear d3'; replace HB := Lib.hid (HB.out.trans (hb.mono HB.out.size)); clear hb))
      clear d0 d1 d2 d3
      go_loopw [6, 36] (fun x i wr => ∃ (k : Nat) (y : Int), k ≤ ks.length ∧ i = .int .i64 k ∧ x = .int .u8 y ∧ 0 ≤ y ∧ y < 256 ∧ Hid (lettersB (ks.drop k) ((kidsL op).drop k) y = lettersB ks (kidsL op) 0) ∧ Hid (Below w.heap.size w wr)) (fun _ i _ => (ks.length - (intOf i).toNat))
      case atStart => exact ⟨0, 0, Nat.zero_le _, rfl, rfl, by omega, by omega, rfl, HB⟩
      case round =>
        obtain ⟨k, y, hk, rfl, rfl, hy0, hy1, HI, HBr⟩ := hrel
        clear HB HC
        by_cases hlt : k < ks.length
        · obtain ⟨b, off, a', cap', A⟩ := (HH.out.below (HBr.out.mono hn)).kid k hlt
          obtain ⟨rfl, hb, c0, c1, c2, c3, hk1⟩ := A
          have HK := Lib.hid hk1
          clear hk1
          go_wp2_with (go_at_call 20; refine (IH.out _ (kid_size hlt HT.out) a' cap' n₀ _ (HK.out.below ((below1 _ _).mono (Nat.le_trans hn HBr.out.size))) (Nat.le_trans hn (Nat.le_trans HBr.out.size (by simp))) (HE.out.below (HBr.out.trans ((below1 _ _).mono HBr.out.size)) HE.out.size)).mono ?_; rintro e w' ⟨rfl, hb⟩)
          all_goals have hb' := HBr.out.trans (((below1 _ _).trans (hb.mono (by simp))).mono HBr.out.size)
          all_goals clear hb
          all_goals have hbx : k < ({ data := (kidsL op).toArray } : ByteArray).size := by show k < (kidsL op).toArray.size; rw [List.size_toArray, HL.out]; exact hlt
          all_goals have S : lettersB ks (kidsL op) 0 = if letterB ks[k] = 0 then none
            else if ((({ data := (kidsL op).toArray } : ByteArray)[k]).toNat : Int) = 120 ∧ letterB ks[k] ≠ 99 ∧ (y = 0 ∨ y = letterB ks[k]) then lettersB (ks.drop (k+1)) ((kidsL op).drop (k+1)) (letterB ks[k])
            else if ((({ data := (kidsL op).toArray } : ByteArray)[k]).toNat : Int) ≠ letterB ks[k] then none
            else lettersB (ks.drop (k+1)) ((kidsL op).drop (k+1)) y := HI.out.symm.trans (lettersB_step ks (kidsL op) k hlt (HL.out.symm ▸ hlt) y)
          all_goals have R := letterB_range ks[k]
          all_goals clear HH HE IH HT HBr HK c0 c1 c2 c3
          all_goals first
            | (have e := way_none S (by simp only [beq_eq_false_iff_ne, bne_iff_ne, beq_iff_eq, bne_eq_false_iff_eq] at *; omega)
               have e' : letterB (.mk op n s ks) = 0 := by rw [E.out, e]
               go_ret
               exact ⟨ret_int e'.symm, hb'⟩)
            | (have e := way_set S (by simp only [beq_eq_false_iff_ne, bne_iff_ne, beq_iff_eq, bne_eq_false_iff_eq] at *; omega)
               go_roundw
               case rel => exact ⟨k + 1, _, by omega, by go_num, rfl, R.1, R.2, e, hb'⟩
               case measure => simp [intOf]; omega)
            | (have e := way_go S (by simp only [beq_eq_false_iff_ne, bne_eq_false_iff_eq] at *; omega)
               go_roundw
               case rel => exact ⟨k + 1, _, by omega, by go_num, rfl, hy0, hy1, e, hb'⟩
               case measure => simp [intOf]; omega)
        · have e : letterB (.mk op n s ks) = if ownL op = [120] then y else ((ownL op).headD 0).toNat := by
            rw [E.out, ← HI.out, lettersB_end ks _ k hlt y]
          have hown := own_pos op ho
          have EE := Lib.hid e
          by_cases hx : ownL op = [120]
          · have hx1 : (ownL op == [120]) = true := by rw [hx]; rfl
            go_wp2
            go_ret
            exact ⟨ret_int (EE.out.trans (if_pos hx)).symm, HBr.out⟩
          · have hx1 : (ownL op == [120]) = false := by rw [beq_eq_false_iff_ne]; exact hx
            go_wp2
            go_ret
            refine ⟨ret_int ?_, HBr.out⟩
            rw [EE.out, if_neg hx]
            exact head_byte _ hown
  · have e := Lib.hid (show letterB (.mk op n s ks) = 0 by unfold letterB; rw [if_neg]; exact fun h => hl h.2.1)
    go_enter Tryd.func20, Tryd.ntmps20
    go_wp2_with (first | (go_at_call 36; refine (sort_any _ _).mono ?_; rintro e w' ⟨rfl, hb⟩; have HC := Lib.hid (show w.heap.size < w'.heap.size by have := hb.size; simp at this; omega); have d0 := (hb.cell (p := ⟨w.heap.size, 0, none⟩) (by simp)).trans (cell_box w _ _ _ _).1; have d1 := (hb.cell (p := ⟨w.heap.size, 1, none⟩) (by simp)).trans (cell_box w _ _ _ _).2.1; have d2 := (hb.cell (p := ⟨w.heap.size, 2, none⟩) (by simp)).trans (cell_box w _ _ _ _).2.2.1; have d3 := (hb.cell (p := ⟨w.heap.size, 3, none⟩) (by simp)).trans (cell_box w _ _ _ _).2.2.2; replace HB := Lib.hid (HB.out.trans (hb.mono HB.out.size)); clear hb) | (go_at_call 35; refine (cut_any _ _ (Lib.hid (HE.out.below HB.out HE.out.size))).mono ?_; rintro e w' ⟨rfl, nd, rfl⟩; replace HB := Lib.hid (Go.below_drewN HB.out nd)) | (go_at_call 37; refine (fields_any _ _ _ _ _ _ _ hs).mono ?_; rintro e w' ⟨rfl, hb⟩; have d3' := d3; have d3 := (hb.cell (p := ⟨w.heap.size, 3, none⟩) (HC.out)).trans d3'; clear d3'; replace HB := Lib.hid (HB.out.trans (hb.mono HB.out.size)); clear hb))
    go_ret
    exact ⟨ret_int e.out.symm, HB.out⟩

/-- a term's type -/
theorem letter_any (t : Tm) (a : Option Addr) (cap n₀ : Nat) (w : World) (hh : t.hold n₀ w a cap) (hn : n₀ ≤ w.heap.size) (he : Env w) :
    Calls Tryd.prog 20 #[.agg #[.int .i64 t.op, .int .i64 t.n, .string t.s, .slice a t.kids.length cap]] w fun e w' => e = .returned (.int .u8 (letterB t)) ∧ Below w.heap.size w w' :=
  letter_any' _ t (Nat.lt_succ_self _) a cap n₀ w hh hn he

end Go.Proofs.YtmjclolmoobfpaaDoor
