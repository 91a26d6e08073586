/-
  Texts that the statements' proofs rest on, one behind another: SxF, SxG, SxH.
-/
import Derived.Test.YtcndknkdhlmdnaaGreatDoorS12

/-
  The program's parser: the chains of each level.
-/
namespace Go.Proofs.YtcndknkdhlmdnaaGreatDoor
open Go.RowKit
set_option maxRecDepth 100000

/-- what a part does of these tokens -/
def CQ (K : Nat) (m : Md) (P g cap : Nat) (ts l : List Tk) : Prop := ∀ (nest : Nat) (w : World), nest ≤ 300 → SQ P g cap ts nest l w → Calls Tryz.prog K #[.pointer (some ⟨P, 0, none⟩)] w (QP P g cap ts nest (rd m nest l) w)
theorem box_ret {P g cap : Nat} {ts : List Tk} {nest : Nat} {t : Nd} {a : Option Addr} {cp : Nat} {r : List Tk} {w W2 w3 : World} (hs : SQ P g cap ts nest r w3) (hg2 : w.grownBy W2 (some P)) (hlt : w.heap.size < W2.heap.size) (hg : W2.grownBy w3 (some P)) (hl : t.lies (Fr W2.heap.size w3.heap.size) w3 a cp) (hd : depthN t ≤ 100) (hb : P < w.heap.size ∧ g < w.heap.size) :
    QP P g cap ts nest (.ok (t, r)) w (.returned (trV t a cp)) (put6 w3 w.heap.size t.kind t.text t.n a t.kids.length cp t.place (depthN t)) :=
  QP.fin hs (grown_trans hg2 hg) (Nat.le_refl _) (by omega) hl (fun c hc => ⟨by have := hc.1; omega, hc.2, by have := hc.1; omega⟩) hd
set_option maxHeartbeats 4000000 in
theorem qor_any (P g cap : Nat) (ts : List Tk) (he : Ends ts) (htk : ∀ t ∈ ts, TkOk t) (l : List Tk) (hn : ∀ r, r.length ≤ l.length → CQ 121 (.chain 1) P g cap ts r) : CQ 83 (.chain 0) P g cap ts l := by
  intro nest w hle h
  obtain ⟨W2, hW2⟩ : ∃ W, W = (w.alloc (.cells #[.int .i64 0, .string ⟨#[]⟩, .int .i64 0, .slice none 0 0, .int .i64 0, .int .i64 0] 67)).alloc (.cells #[.string ⟨#[111, 114]⟩] 9) := ⟨_, rfl⟩
  have B2 := Lib.hid (show Below w.heap.size w W2 from hW2 ▸ qbelow2 _ _ _)
  have hsz := Lib.hid (show W2.heap.size = w.heap.size + 2 by rw [hW2]; simp)
  have Z2 := Lib.hid (show T6 w.heap.size 0 ⟨#[]⟩ 0 none 0 0 0 0 W2 from hW2 ▸ (T6.make w _ _ _ _ _ _ _ _).below (nbelow1 _ _))
  have HB := Lib.hid h.blocks
  have eg : Enters 121 := enters_of Tryz.func121 (by kernel_rfl) rfl
  have C := Lib.hid (show Calls Tryz.prog 120 #[.pointer (some ⟨P, 0, none⟩), .func (.func 121) #[.pointer (some ⟨P, 0, none⟩)] #[], .slice (some ⟨w.heap.size + 1, 0, none⟩) 1 1] W2 (QP P g cap ts nest (rd (.chain 0) nest l) W2) from
    qchain_any P g cap ts he htk nest 0 l 121 #[.pointer (some ⟨P, 0, none⟩)] [⟨#[111, 114]⟩] (w.heap.size + 1) W2 eg rfl (by show 1 ≤ 2; decide) (h.below B2.out) (by have := HB.out; have := hsz.out; omega) (fun j hj => by
      have hj' : j = 0 := by simp at hj; omega
      rw [hW2]
      subst hj'; simp) (fun r hr W hs => hn r hr nest W hle hs))
  generalize rd (.chain 0) nest l = x at C ⊢
  clear h hn htk he eg
  go_enter Tryz.func83, Tryz.ntmps83
  go_wp2_with fail
  rw [← hW2]
  clear hW2
  (with_reducible refine Calls.mono C.out ?_)
  intro e w3 hq
  cases x with
  | error q =>
    obtain ⟨k, p⟩ := q
    obtain ⟨rfl, hg⟩ := hq
    exact ⟨rfl, rfl, grown_trans (grown_of B2.out) hg⟩
  | ok q =>
    obtain ⟨t, r⟩ := q
    obtain ⟨a, cp, rfl, hs, hg, hl, hd⟩ := hq
    have Z3 := Lib.hid (Z2.out.grown hg (fun e => by have := Option.some.inj e; have := HB.out; omega))
    have HS := Lib.hid hs
    have HG := Lib.hid hg
    have HL := Lib.hid hl
    have HD := Lib.hid hd
    obtain ⟨⟨z0, z1, z2, z3, z4, z5⟩, ⟨f0, f1, f2, f3, f4, f5⟩⟩ := Z3.out.cells
    have hzl := Z3.out.lt
    clear hs hg hl hd C
    unfold trV
    go_wp2_with fail
    refine bodyPost_ret (v := trV t a cp) (by simp [results, Tryz.results83, go_sem, trV, z0, z1, z2, z3, z4, z5]) rfl ?_
    exact box_ret HS.out (grown_of B2.out) Z2.out.lt HG.out HL.out HD.out ⟨HB.out.1, HB.out.2.1⟩
set_option maxHeartbeats 4000000 in
theorem qand_any (P g cap : Nat) (ts : List Tk) (he : Ends ts) (htk : ∀ t ∈ ts, TkOk t) (l : List Tk) (hn : ∀ r, r.length ≤ l.length → CQ 154 .not P g cap ts r) : CQ 121 (.chain 1) P g cap ts l := by
  intro nest w hle h
  obtain ⟨W2, hW2⟩ : ∃ W, W = (w.alloc (.cells #[.int .i64 0, .string ⟨#[]⟩, .int .i64 0, .slice none 0 0, .int .i64 0, .int .i64 0] 67)).alloc (.cells #[.string ⟨#[97, 110, 100]⟩] 9) := ⟨_, rfl⟩
  have B2 := Lib.hid (show Below w.heap.size w W2 from hW2 ▸ qbelow2 _ _ _)
  have hsz := Lib.hid (show W2.heap.size = w.heap.size + 2 by rw [hW2]; simp)
  have Z2 := Lib.hid (show T6 w.heap.size 0 ⟨#[]⟩ 0 none 0 0 0 0 W2 from hW2 ▸ (T6.make w _ _ _ _ _ _ _ _).below (nbelow1 _ _))
  have HB := Lib.hid h.blocks
  have eg : Enters 154 := enters_of Tryz.func154 (by kernel_rfl) rfl
  have C := Lib.hid (show Calls Tryz.prog 120 #[.pointer (some ⟨P, 0, none⟩), .func (.func 154) #[.pointer (some ⟨P, 0, none⟩)] #[], .slice (some ⟨w.heap.size + 1, 0, none⟩) 1 1] W2 (QP P g cap ts nest (rd (.chain 1) nest l) W2) from
    qchain_any P g cap ts he htk nest 1 l 154 #[.pointer (some ⟨P, 0, none⟩)] [⟨#[97, 110, 100]⟩] (w.heap.size + 1) W2 eg rfl (by show 1 ≤ 2; decide) (h.below B2.out) (by have := HB.out; have := hsz.out; omega) (fun j hj => by
      have hj' : j = 0 := by simp at hj; omega
      rw [hW2]
      subst hj'; simp) (fun r hr W hs => hn r hr nest W hle hs))
  generalize rd (.chain 1) nest l = x at C ⊢
  clear h hn htk he eg
  go_enter Tryz.func121, Tryz.ntmps121
  go_wp2_with fail
  rw [← hW2]
  clear hW2
  (with_reducible refine Calls.mono C.out ?_)
  intro e w3 hq
  cases x with
  | error q =>
    obtain ⟨k, p⟩ := q
    obtain ⟨rfl, hg⟩ := hq
    exact ⟨rfl, rfl, grown_trans (grown_of B2.out) hg⟩
  | ok q =>
    obtain ⟨t, r⟩ := q
    obtain ⟨a, cp, rfl, hs, hg, hl, hd⟩ := hq
    have Z3 := Lib.hid (Z2.out.grown hg (fun e => by have := Option.some.inj e; have := HB.out; omega))
    have HS := Lib.hid hs
    have HG := Lib.hid hg
    have HL := Lib.hid hl
    have HD := Lib.hid hd
    obtain ⟨⟨z0, z1, z2, z3, z4, z5⟩, ⟨f0, f1, f2, f3, f4, f5⟩⟩ := Z3.out.cells
    have hzl := Z3.out.lt
    clear hs hg hl hd C
    unfold trV
    go_wp2_with fail
    refine bodyPost_ret (v := trV t a cp) (by simp [results, Tryz.results121, go_sem, trV, z0, z1, z2, z3, z4, z5]) rfl ?_
    exact box_ret HS.out (grown_of B2.out) Z2.out.lt HG.out HL.out HD.out ⟨HB.out.1, HB.out.2.1⟩
set_option maxHeartbeats 4000000 in
theorem qsum_any (P g cap : Nat) (ts : List Tk) (he : Ends ts) (htk : ∀ t ∈ ts, TkOk t) (l : List Tk) (hn : ∀ r, r.length ≤ l.length → CQ 208 (.chain 3) P g cap ts r) : CQ 184 (.chain 2) P g cap ts l := by
  intro nest w hle h
  obtain ⟨W2, hW2⟩ : ∃ W, W = (w.alloc (.cells #[.int .i64 0, .string ⟨#[]⟩, .int .i64 0, .slice none 0 0, .int .i64 0, .int .i64 0] 67)).alloc (.cells #[.string ⟨#[43]⟩, .string ⟨#[45]⟩] 9) := ⟨_, rfl⟩
  have B2 := Lib.hid (show Below w.heap.size w W2 from hW2 ▸ qbelow2 _ _ _)
  have hsz := Lib.hid (show W2.heap.size = w.heap.size + 2 by rw [hW2]; simp)
  have Z2 := Lib.hid (show T6 w.heap.size 0 ⟨#[]⟩ 0 none 0 0 0 0 W2 from hW2 ▸ (T6.make w _ _ _ _ _ _ _ _).below (nbelow1 _ _))
  have HB := Lib.hid h.blocks
  have eg : Enters 208 := enters_of Tryz.func208 (by kernel_rfl) rfl
  have C := Lib.hid (show Calls Tryz.prog 120 #[.pointer (some ⟨P, 0, none⟩), .func (.func 208) #[.pointer (some ⟨P, 0, none⟩)] #[], .slice (some ⟨w.heap.size + 1, 0, none⟩) 2 2] W2 (QP P g cap ts nest (rd (.chain 2) nest l) W2) from
    qchain_any P g cap ts he htk nest 2 l 208 #[.pointer (some ⟨P, 0, none⟩)] [⟨#[43]⟩, ⟨#[45]⟩] (w.heap.size + 1) W2 eg rfl (by show 2 ≤ 2; decide) (h.below B2.out) (by have := HB.out; have := hsz.out; omega) (fun j hj => by
      have hj' : j = 0 ∨ j = 1 := by simp at hj; omega
      rw [hW2]
      rcases hj' with rfl | rfl <;> simp) (fun r hr W hs => hn r hr nest W hle hs))
  generalize rd (.chain 2) nest l = x at C ⊢
  clear h hn htk he eg
  go_enter Tryz.func184, Tryz.ntmps184
  go_wp2_with fail
  rw [← hW2]
  clear hW2
  (with_reducible refine Calls.mono C.out ?_)
  intro e w3 hq
  cases x with
  | error q =>
    obtain ⟨k, p⟩ := q
    obtain ⟨rfl, hg⟩ := hq
    exact ⟨rfl, rfl, grown_trans (grown_of B2.out) hg⟩
  | ok q =>
    obtain ⟨t, r⟩ := q
    obtain ⟨a, cp, rfl, hs, hg, hl, hd⟩ := hq
    have Z3 := Lib.hid (Z2.out.grown hg (fun e => by have := Option.some.inj e; have := HB.out; omega))
    have HS := Lib.hid hs
    have HG := Lib.hid hg
    have HL := Lib.hid hl
    have HD := Lib.hid hd
    obtain ⟨⟨z0, z1, z2, z3, z4, z5⟩, ⟨f0, f1, f2, f3, f4, f5⟩⟩ := Z3.out.cells
    have hzl := Z3.out.lt
    clear hs hg hl hd C
    unfold trV
    go_wp2_with fail
    refine bodyPost_ret (v := trV t a cp) (by simp [results, Tryz.results184, go_sem, trV, z0, z1, z2, z3, z4, z5]) rfl ?_
    exact box_ret HS.out (grown_of B2.out) Z2.out.lt HG.out HL.out HD.out ⟨HB.out.1, HB.out.2.1⟩
set_option maxHeartbeats 4000000 in
theorem qprod_any (P g cap : Nat) (ts : List Tk) (he : Ends ts) (htk : ∀ t ∈ ts, TkOk t) (l : List Tk) (hn : ∀ r, r.length ≤ l.length → CQ 223 .unary P g cap ts r) : CQ 208 (.chain 3) P g cap ts l := by
  intro nest w hle h
  obtain ⟨W2, hW2⟩ : ∃ W, W = (w.alloc (.cells #[.int .i64 0, .string ⟨#[]⟩, .int .i64 0, .slice none 0 0, .int .i64 0, .int .i64 0] 67)).alloc (.cells #[.string ⟨#[42]⟩, .string ⟨#[47]⟩] 9) := ⟨_, rfl⟩
  have B2 := Lib.hid (show Below w.heap.size w W2 from hW2 ▸ qbelow2 _ _ _)
  have hsz := Lib.hid (show W2.heap.size = w.heap.size + 2 by rw [hW2]; simp)
  have Z2 := Lib.hid (show T6 w.heap.size 0 ⟨#[]⟩ 0 none 0 0 0 0 W2 from hW2 ▸ (T6.make w _ _ _ _ _ _ _ _).below (nbelow1 _ _))
  have HB := Lib.hid h.blocks
  have eg : Enters 223 := enters_of Tryz.func223 (by kernel_rfl) rfl
  have C := Lib.hid (show Calls Tryz.prog 120 #[.pointer (some ⟨P, 0, none⟩), .func (.func 223) #[.pointer (some ⟨P, 0, none⟩)] #[], .slice (some ⟨w.heap.size + 1, 0, none⟩) 2 2] W2 (QP P g cap ts nest (rd (.chain 3) nest l) W2) from
    qchain_any P g cap ts he htk nest 3 l 223 #[.pointer (some ⟨P, 0, none⟩)] [⟨#[42]⟩, ⟨#[47]⟩] (w.heap.size + 1) W2 eg rfl (by show 2 ≤ 2; decide) (h.below B2.out) (by have := HB.out; have := hsz.out; omega) (fun j hj => by
      have hj' : j = 0 ∨ j = 1 := by simp at hj; omega
      rw [hW2]
      rcases hj' with rfl | rfl <;> simp) (fun r hr W hs => hn r hr nest W hle hs))
  generalize rd (.chain 3) nest l = x at C ⊢
  clear h hn htk he eg
  go_enter Tryz.func208, Tryz.ntmps208
  go_wp2_with fail
  rw [← hW2]
  clear hW2
  (with_reducible refine Calls.mono C.out ?_)
  intro e w3 hq
  cases x with
  | error q =>
    obtain ⟨k, p⟩ := q
    obtain ⟨rfl, hg⟩ := hq
    exact ⟨rfl, rfl, grown_trans (grown_of B2.out) hg⟩
  | ok q =>
    obtain ⟨t, r⟩ := q
    obtain ⟨a, cp, rfl, hs, hg, hl, hd⟩ := hq
    have Z3 := Lib.hid (Z2.out.grown hg (fun e => by have := Option.some.inj e; have := HB.out; omega))
    have HS := Lib.hid hs
    have HG := Lib.hid hg
    have HL := Lib.hid hl
    have HD := Lib.hid hd
    obtain ⟨⟨z0, z1, z2, z3, z4, z5⟩, ⟨f0, f1, f2, f3, f4, f5⟩⟩ := Z3.out.cells
    have hzl := Z3.out.lt
    clear hs hg hl hd C
    unfold trV
    go_wp2_with fail
    refine bodyPost_ret (v := trV t a cp) (by simp [results, Tryz.results208, go_sem, trV, z0, z1, z2, z3, z4, z5]) rfl ?_
    exact box_ret HS.out (grown_of B2.out) Z2.out.lt HG.out HL.out HD.out ⟨HB.out.1, HB.out.2.1⟩
end Go.Proofs.YtcndknkdhlmdnaaGreatDoor

/-
  The program's parser: a word or sign ahead.
-/
namespace Go.Proofs.YtcndknkdhlmdnaaGreatDoor
open Go.RowKit
set_option maxRecDepth 100000

/-- a token in a block of its own -/
def QT (b : Nat) (t : Tk) (W : World) : Prop := W.heap[b]? = some (.cells #[.int .i64 t.kind, .string ⟨t.text.toArray⟩, .int .i64 t.n, .int .i64 t.pos] 96 (0, 0))
section
variable {b : Nat} {k : Tk} {W W' : World}
theorem QT.lt (h : QT b k W) : b < W.heap.size := (Array.getElem?_eq_some_iff.1 h).1
theorem QT.cells (h : QT b k W) : (W.cell? ⟨b, 0, none⟩ = some (.int .i64 k.kind) ∧ W.cell? ⟨b, 1, none⟩ = some (.string ⟨k.text.toArray⟩) ∧ W.cell? ⟨b, 2, none⟩ = some (.int .i64 k.n) ∧ W.cell? ⟨b, 3, none⟩ = some (.int .i64 k.pos)) ∧
    (W.frozen? ⟨b, 0, none⟩ = false ∧ W.frozen? ⟨b, 1, none⟩ = false ∧ W.frozen? ⟨b, 2, none⟩ = false ∧ W.frozen? ⟨b, 3, none⟩ = false) := by
  have h' : W.heap[b]? = some (.cells #[.int .i64 k.kind, .string ⟨k.text.toArray⟩, .int .i64 k.n, .int .i64 k.pos] 96 (0, 0)) := h
  refine ⟨⟨?_, ?_, ?_, ?_⟩, ?_, ?_, ?_, ?_⟩ <;> simp [World.cell?, World.frozen?, h']
theorem QT.make (w : World) (k : Tk) : QT w.heap.size k (w.alloc (.cells #[.int .i64 k.kind, .string ⟨k.text.toArray⟩, .int .i64 k.n, .int .i64 k.pos] 96)) := by
  show (w.heap.push _)[w.heap.size]? = _; simp
theorem QT.below (h : QT b k W) (hb : Below W.heap.size W W') : QT b k W' := (hb.block b h.lt).trans h
theorem QT.grown {r : Option Nat} (h : QT b k W) (g : W.grownBy W' r) (hp : r ≠ some b) : QT b k W' := (g.block b h.lt (fun e => hp e.symm)).trans h
end
theorem made_rest {t t' : Nd} {q q' : List Tk} (h : made t q = .ok (t', q')) : q' = q := by
  unfold made at h
  split at h
  · cases h
  · cases h; rfl
set_option maxHeartbeats 8000000 in
theorem qprefix1_any (P g cap : Nat) (ts : List Tk) (he : Ends ts) (htk : ∀ t ∈ ts, TkOk t) (nest : Nat) (l : List Tk) (md : Md) (K : Nat) (fs : Array Value) (pb rb : Nat) (w : World) (hK : Enters K) (h : SQ P g cap ts nest l w)
    (hp : w.cell? ⟨pb, 0, none⟩ = some (.pointer (some ⟨P, 0, none⟩))) (hr : w.cell? ⟨rb, 0, none⟩ = some (.func (.func K) fs #[])) (hpb : pb ≠ P ∧ pb < w.heap.size) (hrb : rb ≠ P ∧ rb < w.heap.size)
    (hread : ∀ W, SQ P g cap ts nest (stepL l) W → Calls Tryz.prog K fs W (QP P g cap ts nest (rd md nest (stepL l)) W)) :
    Calls Tryz.prog 207 #[.pointer (some ⟨pb, 0, none⟩), .pointer (some ⟨rb, 0, none⟩)] w (QP P g cap ts nest ((rd md nest (stepL l)).then fun t r => made (mkN 12 (hd l).text 0 [t] (hd l).pos) r) w) := by
  unfold Enters at hK
  have HT0 := Lib.hid (htk _ h.mem)
  have hbl := h.blocks
  have HR := Lib.hid hread
  obtain ⟨X, hX⟩ : ∃ X, X = ((rd md nest (stepL l)).then fun t r => made (mkN 12 (hd l).text 0 [t] (hd l).pos) r) := ⟨_, rfl⟩
  rw [← hX]
  have HX := Lib.hid hX
  obtain ⟨W1, hW1⟩ : ∃ W, W = w.alloc (.cells #[.int .i64 0, .string ⟨#[]⟩, .int .i64 0, .slice none 0 0, .int .i64 0, .int .i64 0] 67) := ⟨_, rfl⟩
  have B1 := Lib.hid (show Below w.heap.size w W1 from hW1 ▸ nbelow1 _ _)
  have Z1 := Lib.hid (show T6 w.heap.size 0 ⟨#[]⟩ 0 none 0 0 0 0 W1 from hW1 ▸ T6.make w _ _ _ _ _ _ _ _)
  have C1 := Lib.hid (qstep_s P g cap ts nest l W1 (h.below B1.out) he)
  have HPR := Lib.hid (show w.cell? ⟨pb, 0, none⟩ = some (.pointer (some ⟨P, 0, none⟩)) ∧ w.cell? ⟨rb, 0, none⟩ = some (.func (.func K) fs #[]) from ⟨hp, hr⟩)
  have hp1 : W1.cell? ⟨pb, 0, none⟩ = some (.pointer (some ⟨P, 0, none⟩)) := (B1.out.cell (p := ⟨pb, 0, none⟩) hpb.2).trans hp
  have HH := Lib.hid h
  generalize hd l = T at C1 HX HT0
  clear h htk he hread hX hp hr
  go_enter Tryz.func207, Tryz.ntmps207
  go_upto_region 1 with fail
  rw [← hW1]
  clear hW1
  go_wp2_with fail
  (with_reducible refine Calls.mono C1.out ?_)
  rintro e w3 ⟨rfl, hs3, hg3⟩
  have G3 := Lib.hid (grown_trans (grown_of B1.out) hg3)
  have S3 := Lib.hid hs3
  have Z3 := Lib.hid (Z1.out.grown hg3 (fun e => by have := Option.some.inj e; omega))
  have hsz3 := Lib.hid (show w.heap.size + 1 ≤ w3.heap.size by have := Z3.out.lt; omega)
  clear hs3 hg3 C1 hp1
  unfold tkV
  obtain ⟨W4, hW4⟩ : ∃ W, W = w3.alloc (.cells #[.int .i64 T.kind, .string ⟨T.text.toArray⟩, .int .i64 T.n, .int .i64 T.pos] 96) := ⟨_, rfl⟩
  have B4 := Lib.hid (show Below w3.heap.size w3 W4 from hW4 ▸ nbelow1 _ _)
  have hsz4 := Lib.hid (show W4.heap.size = w3.heap.size + 1 by rw [hW4]; simp)
  have Q4 := Lib.hid (show QT w3.heap.size T W4 from hW4 ▸ QT.make w3 T)
  have Z4 := Lib.hid (Z3.out.below B4.out)
  have S4 := Lib.hid (S3.out.below B4.out)
  have BD := Lib.hid (show Below W4.heap.size W4 W4.drew from bdrew (Below.refl _ _))
  have GW := Lib.hid (show w.grownBy W4.drew (some P) from grown_trans G3.out (grown_of (B4.out.trans (BD.out.mono B4.out.size))))
  have HSy := Lib.hid (show ∀ cur : World, cur.heap[pb]? = w.heap[pb]? → cur.heap[rb]? = w.heap[rb]? → QT w3.heap.size T cur → (cur.cell? ⟨pb, 0, none⟩ = some (.pointer (some ⟨P, 0, none⟩)) ∧ cur.cell? ⟨rb, 0, none⟩ = some (.func (.func K) fs #[])) ∧ (cur.cell? ⟨w3.heap.size, 0, none⟩ = some (.int .i64 T.kind) ∧ cur.cell? ⟨w3.heap.size, 1, none⟩ = some (.string ⟨T.text.toArray⟩) ∧ cur.cell? ⟨w3.heap.size, 2, none⟩ = some (.int .i64 T.n) ∧ cur.cell? ⟨w3.heap.size, 3, none⟩ = some (.int .i64 T.pos)) from
    fun cur h1 h2 h3 => ⟨⟨(World.cell?_of_block h1).trans HPR.out.1, (World.cell?_of_block h2).trans HPR.out.2⟩, h3.cells.1⟩)
  have HSx := Lib.hid (show (W4.drew.cell? ⟨pb, 0, none⟩ = some (.pointer (some ⟨P, 0, none⟩)) ∧ W4.drew.cell? ⟨rb, 0, none⟩ = some (.func (.func K) fs #[])) ∧ (W4.drew.cell? ⟨w3.heap.size, 0, none⟩ = some (.int .i64 T.kind) ∧ W4.drew.cell? ⟨w3.heap.size, 1, none⟩ = some (.string ⟨T.text.toArray⟩) ∧ W4.drew.cell? ⟨w3.heap.size, 2, none⟩ = some (.int .i64 T.n) ∧ W4.drew.cell? ⟨w3.heap.size, 3, none⟩ = some (.int .i64 T.pos)) from
    HSy.out _ (GW.out.block pb hpb.2 (fun e => hpb.1 (Option.some.inj e))) (GW.out.block rb hrb.2 (fun e => hrb.1 (Option.some.inj e))) Q4.out)
  have C6 := Lib.hid (HR.out W4.drew (S4.out.below BD.out))
  generalize rd md nest (stepL l) = x at C6 HX
  go_upto_region 2 with fail
  rw [← hW4]
  clear hW4
  refine wp_region_till (S := (fun cur => (cur.cell? ⟨pb, 0, none⟩ = some (.pointer (some ⟨P, 0, none⟩)) ∧ cur.cell? ⟨rb, 0, none⟩ = some (.func (.func K) fs #[])) ∧ (cur.cell? ⟨w3.heap.size, 0, none⟩ = some (.int .i64 T.kind) ∧ cur.cell? ⟨w3.heap.size, 1, none⟩ = some (.string ⟨T.text.toArray⟩) ∧ cur.cell? ⟨w3.heap.size, 2, none⟩ = some (.int .i64 T.n) ∧ cur.cell? ⟨w3.heap.size, 3, none⟩ = some (.int .i64 T.pos)))) (z := 10) (by kernel_rfl) ?_ (fun hHeld => ?_)
  · exact HSx.out
  refine AnyTill.take (i := 0) (v := ?_) (op_at rfl) (by kernel_rfl) (by kernel_rfl) (by kernel_rfl) (by kernel_rfl) (fun _ _ _ h => h) (Or.inl ⟨by rfl, ?_⟩) (by assumption) ?_
  rotate_left
  · (intro w hSw; (try dsimp only at hSw); go_simp; try with_reducible rfl)
  try simp only [Act.put, List.setIfInBounds_toArray, List.set_cons_zero, List.set_cons_succ]
  refine AnyTill.take (i := 1) (v := ?_) (op_at rfl) (by kernel_rfl) (by kernel_rfl) (by kernel_rfl) (by kernel_rfl) (fun _ _ _ h => h) (Or.inl ⟨by rfl, ?_⟩) (by assumption) ?_
  rotate_left
  · (intro w hSw; (try dsimp only at hSw); go_simp; try with_reducible rfl)
  try simp only [Act.put, List.setIfInBounds_toArray, List.set_cons_zero, List.set_cons_succ]
  refine AnyTill.take (i := 2) (v := ?_) (op_at rfl) (by kernel_rfl) (by kernel_rfl) (by kernel_rfl) (by kernel_rfl) (fun _ _ _ h => h) (Or.inl ⟨by rfl, ?_⟩) (by assumption) ?_
  rotate_left
  · (intro w hSw; (try dsimp only at hSw); go_simp; try with_reducible rfl)
  try simp only [Act.put, List.setIfInBounds_toArray, List.set_cons_zero, List.set_cons_succ]
  refine AnyTill.take (i := 3) (v := ?_) (op_at rfl) (by kernel_rfl) (by kernel_rfl) (by kernel_rfl) (by kernel_rfl) (fun _ _ _ h => h) (Or.inl ⟨by rfl, ?_⟩) (by assumption) ?_
  rotate_left
  · (intro w hSw; (try dsimp only at hSw); go_simp; try with_reducible rfl)
  try simp only [Act.put, List.setIfInBounds_toArray, List.set_cons_zero, List.set_cons_succ]
  refine AnyTill.take (i := 4) (v := ?_) (op_at rfl) (by kernel_rfl) (by kernel_rfl) (by kernel_rfl) (by kernel_rfl) (fun _ _ _ h => h) (Or.inl ⟨by rfl, ?_⟩) (by assumption) ?_
  rotate_left
  · (intro w hSw; (try dsimp only at hSw); go_simp; try with_reducible rfl)
  try simp only [Act.put, List.setIfInBounds_toArray, List.set_cons_zero, List.set_cons_succ]
  refine AnyTill.take (i := 5) (v := ?_) (op_at rfl) (by kernel_rfl) (by kernel_rfl) (by kernel_rfl) (by kernel_rfl) (fun _ _ _ h => h) (Or.inl ⟨by rfl, ?_⟩) (by assumption) ?_
  rotate_left
  · (intro w hSw; (try dsimp only at hSw); go_simp; try with_reducible rfl)
  try simp only [Act.put, List.setIfInBounds_toArray, List.set_cons_zero, List.set_cons_succ]
  refine AnyTill.take (i := 6) (v := ?_) (op_at rfl) (by kernel_rfl) (by kernel_rfl) (by kernel_rfl) (by kernel_rfl) (fun _ _ _ h => h) (Or.inl ⟨by rfl, ?_⟩) (by assumption) ?_
  rotate_left
  · (intro w hSw; (try dsimp only at hSw); go_simp; try with_reducible rfl)
  try simp only [Act.put, List.setIfInBounds_toArray, List.set_cons_zero, List.set_cons_succ]
  refine AnyTill.next (i := 7) (by kernel_rfl) (op_at rfl) (by decide) (fun K hK => ?_)
  go_simp
  (with_reducible refine Calls.mono C6.out ?_)
  intro e w6 hq
  cases x with
  | error q =>
    obtain ⟨k0, p0⟩ := q
    obtain ⟨rfl, hg⟩ := hq
    refine And.intro rfl ?_
    rw [HX.out]
    exact ⟨rfl, grown_trans GW.out hg⟩
  | ok q =>
  obtain ⟨m, q⟩ := q
  obtain ⟨a2, cp2, rfl, hs6, hg6, hl6, hd6⟩ := hq
  have S6 := Lib.hid hs6
  have G6 := Lib.hid (grown_trans GW.out hg6)
  have Q6 := Lib.hid (QT.grown (show QT w3.heap.size T W4.drew from Q4.out) hg6 (fun e => by have := Option.some.inj e; have := hsz3.out; omega))
  have HP6 := Lib.hid (show w6.heap[pb]? = w.heap[pb]? ∧ w6.heap[rb]? = w.heap[rb]? from ⟨G6.out.block pb hpb.2 (fun e => hpb.1 (Option.some.inj e)), G6.out.block rb hrb.2 (fun e => hrb.1 (Option.some.inj e))⟩)
  have HG6 := Lib.hid hg6
  have HL6 := Lib.hid hl6
  have HD6 := Lib.hid hd6
  have Z6 := Lib.hid (T6.grown (show T6 w.heap.size 0 ⟨#[]⟩ 0 none 0 0 0 0 W4.drew from Z4.out) hg6 (fun e => by have := Option.some.inj e; omega))
  clear hs6 hg6 hl6 hd6 C6
  unfold trV
  go_wp2_with fail
  refine hK.out _ _ ?_ (fun hHeld => ?_)
  · exact HSy.out _ HP6.out.1 HP6.out.2 Q6.out
  clear hK K
  try simp only [Act.put, List.setIfInBounds_toArray, List.set_cons_zero, List.set_cons_succ]
  refine AnyTill.next (i := 8) (by kernel_rfl) (op_at rfl) (by decide) (fun K hK => ?_)
  go_simp
  obtain ⟨W7, hW7⟩ : ∃ W, W = w6.alloc (.cells #[.int .i64 m.kind, .string m.text, .int .i64 m.n, .slice a2 m.kids.length cp2, .int .i64 m.place, .int .i64 (depthN m)] 67) := ⟨_, rfl⟩
  have R7 := Lib.hid (show TRow W7 w6.heap.size 0 [(m, a2, cp2)] from hW7 ▸ trow1 w6 _ (m, a2, cp2))
  have B7 := Lib.hid (show Below w6.heap.size w6 W7 from hW7 ▸ nbelow1 _ _)
  have hz7 := Lib.hid (show W7.heap.size = w6.heap.size + 1 by rw [hW7]; simp)
  have Q7 := Lib.hid (Q6.out.below B7.out)
  have hsz6 := Lib.hid (show w.heap.size ≤ w6.heap.size from G6.out.size)
  have C7 := Lib.hid (show Calls Tryz.prog 86 #[.pointer (some ⟨P, 0, none⟩), .agg #[.int .i64 12, .string ⟨T.text.toArray⟩, .int .i64 0, .slice none 0 0, .int .i64 T.pos], .slice (some ⟨w6.heap.size, 0, none⟩) 1 1] W7 (MadeQ 12 T.text 0 T.pos [(m, a2, cp2)] W7) from
    qmade_any P 12 T.text 0 T.pos (some ⟨w6.heap.size, 0, none⟩) 1 [(m, a2, cp2)] W7 (by show 1 ≤ 8; decide) (fun _ => ⟨w6.heap.size, 0, rfl, by have := hz7.out; omega, R7.out⟩) (fun e he => by
      obtain rfl := List.mem_singleton.1 he; exact HD6.out))
  rw [← hW7]
  clear hW7
  refine hK.out _ _ ?_ (fun hHeld => ?_)
  · exact HSy.out _ ((B7.out.block pb (by have := hsz6.out; omega)).trans HP6.out.1) ((B7.out.block rb (by have := hsz6.out; omega)).trans HP6.out.2) Q7.out
  clear hK K
  try simp only [Act.put, List.setIfInBounds_toArray, List.set_cons_zero, List.set_cons_succ]
  refine AnyTill.next (i := 9) (by kernel_rfl) (op_at rfl) (by decide) (fun K hK => ?_)
  go_simp
  (with_reducible refine Calls.mono C7.out ?_)
  intro e w8 hm
  have HMR := Lib.hid (show MadeR (made (mkN 12 T.text 0 [m] T.pos) q) (Fr W4.heap.size w6.heap.size) W7 e w8 from
    hm.use rfl (by have := HT0.out.2.2; omega) rfl HT0.out.2.1 (fun c hc => by have := hc.2; have := hz7.out; omega) (fun e he => by
      obtain rfl := List.mem_singleton.1 he
      exact lies_move HL6.out (fun c hc => B7.out.block c hc.2) fun c hc => hc) q)
  clear hm C7
  obtain ⟨hb8, hm⟩ := HMR.out
  have B8 := Lib.hid hb8
  have HXm := Lib.hid (show X = made (mkN 12 T.text 0 [m] T.pos) q from HX.out)
  cases hmd : made (mkN 12 T.text 0 [m] T.pos) q with
  | error z =>
    obtain ⟨k0, p0⟩ := z
    rw [hmd] at hm
    obtain rfl := hm
    refine And.intro rfl ?_
    rw [HXm.out, hmd]
    exact ⟨rfl, grown_trans G6.out (grown_of (B7.out.trans (B8.out.mono B7.out.size)))⟩
  | ok z =>
  obtain ⟨t2, q2⟩ := z
  have hq2 : q2 = q := made_rest hmd
  subst hq2
  rw [hmd] at hm
  obtain ⟨a3, cp3, rfl, hl3, hd3⟩ := hm
  have HMD := Lib.hid hmd
  have HL3 := Lib.hid hl3
  have HD3 := Lib.hid hd3
  have Q8 := Lib.hid (Q7.out.below B8.out)
  have hb78 := B7.out.trans (B8.out.mono B7.out.size)
  have B68 := Lib.hid hb78
  have HP8 := Lib.hid (show w8.heap[pb]? = w.heap[pb]? ∧ w8.heap[rb]? = w.heap[rb]? from ⟨(hb78.block pb (by have := hsz6.out; omega)).trans HP6.out.1, (hb78.block rb (by have := hsz6.out; omega)).trans HP6.out.2⟩)
  clear hmd hl3 hd3 hb8 hb78
  unfold trV
  go_wp2_with fail
  refine hK.out _ _ ?_ (fun hHeld => ?_)
  · exact HSy.out _ HP8.out.1 HP8.out.2 Q8.out
  clear hK K
  try simp only [Act.put, List.setIfInBounds_toArray, List.set_cons_zero, List.set_cons_succ]
  have Z8 := Lib.hid (Z6.out.below B68.out)
  obtain ⟨⟨z0, z1, z2, z3, z4, z5⟩, ⟨f0, f1, f2, f3, f4, f5⟩⟩ := Z8.out.cells
  have hzl := Z8.out.lt
  refine AnyTill.last (z := 10) (by kernel_rfl) (op_at rfl) (by kernel_rfl) (fun K hK => ?_)
  go_simp
  refine hK.out _ _ ?_
  clear hK K
  go_wp2_with fail
  refine bodyPost_ret (v := trV t2 a3 cp3) (by simp [results, Tryz.results207, go_sem, trV, z0, z1, z2, z3, z4, z5]) rfl ?_
  rw [HXm.out, HMD.out]
  have h1 := hz7.out
  have h2 := B8.out.size
  have h3 := hsz4.out
  have h6 := hsz3.out
  have h4 := HG6.out.size
  have h5 : W4.drew.heap.size = W4.heap.size := rfl
  exact QP.fin ((S6.out.below B7.out).below B8.out) (grown_trans G6.out (grown_of B68.out)) (Nat.le_refl _) (by omega) HL3.out (fun c hc => by
    rcases hc with hc | hc
    · have := hc.1; have := hc.2; omega
    · have := hc.1; have := hc.2; omega) HD3.out
end Go.Proofs.YtcndknkdhlmdnaaGreatDoor

/-
  The program's parser: a word or sign ahead of what stands behind it; a unary expression.
-/
namespace Go.Proofs.YtcndknkdhlmdnaaGreatDoor
open Go.RowKit
set_option maxRecDepth 100000

set_option maxHeartbeats 4000000 in
theorem qprefix_any (P g cap : Nat) (ts : List Tk) (he : Ends ts) (htk : ∀ t ∈ ts, TkOk t) (nest : Nat) (l : List Tk) (md : Md) (K : Nat) (fs : Array Value) (w : World) (hn : nest ≤ 300) (hK : Enters K) (h : SQ P g cap ts nest l w)
    (hread : nest + 1 ≤ 300 → ∀ W, SQ P g cap ts (nest + 1) (stepL l) W → Calls Tryz.prog K fs W (QP P g cap ts (nest + 1) (rd md (nest + 1) (stepL l)) W)) :
    Calls Tryz.prog 183 #[.pointer (some ⟨P, 0, none⟩), .func (.func K) fs #[]] w (QP P g cap ts nest (nestT nest l ((rd md (nest + 1) (stepL l)).then fun t r => made (mkN 12 (hd l).text 0 [t] (hd l).pos) r)) w) := by
  obtain ⟨W1, hW1⟩ : ∃ W, W = (w.alloc (.cells #[.pointer (some ⟨P, 0, none⟩)] 65)).alloc (.cells #[.func (.func K) fs #[]] 68) := ⟨_, rfl⟩
  have B1 := Lib.hid (show Below w.heap.size w W1 from hW1 ▸ qbelow2 _ _ _)
  have hz1 := Lib.hid (show W1.heap.size = w.heap.size + 2 by rw [hW1]; simp)
  have hp := Lib.hid (show W1.cell? ⟨w.heap.size, 0, none⟩ = some (.pointer (some ⟨P, 0, none⟩)) ∧ W1.cell? ⟨w.heap.size + 1, 0, none⟩ = some (.func (.func K) fs #[]) by rw [hW1]; constructor <;> simp)
  obtain ⟨W2, hW2⟩ : ∃ W, W = W1.alloc (.cells #[.int .i64 0, .string ⟨#[]⟩, .int .i64 0, .slice none 0 0, .int .i64 0, .int .i64 0] 67) := ⟨_, rfl⟩
  have B2' := Lib.hid (show Below W1.heap.size W1 W2 from hW2 ▸ nbelow1 _ _)
  have B2 := Lib.hid (B1.out.trans (B2'.out.mono B1.out.size))
  have Z2 := Lib.hid (show T6 (w.heap.size + 1 + 1) 0 ⟨#[]⟩ 0 none 0 0 0 0 W2 from hW2 ▸ (show w.heap.size + 1 + 1 = W1.heap.size by rw [hz1.out]) ▸ T6.make W1 _ _ _ _ _ _ _ _)
  have HB := Lib.hid h.blocks
  have eg : Enters 207 := enters_of Tryz.func207 (by kernel_rfl) rfl
  have hp2 := Lib.hid (show W2.cell? ⟨w.heap.size, 0, none⟩ = some (.pointer (some ⟨P, 0, none⟩)) ∧ W2.cell? ⟨w.heap.size + 1, 0, none⟩ = some (.func (.func K) fs #[]) from
    ⟨(B2'.out.cell (p := ⟨w.heap.size, 0, none⟩) (by show w.heap.size < W1.heap.size; rw [hz1.out]; omega)).trans hp.out.1, (B2'.out.cell (p := ⟨w.heap.size + 1, 0, none⟩) (by show w.heap.size + 1 < W1.heap.size; rw [hz1.out]; omega)).trans hp.out.2⟩)
  have hz2 := Lib.hid (show w.heap.size + 2 < W2.heap.size from Z2.out.lt)
  obtain ⟨x, hx⟩ : ∃ x, x = ((rd md (nest + 1) (stepL l)).then fun t r => made (mkN 12 (hd l).text 0 [t] (hd l).pos) r) := ⟨_, rfl⟩
  have C := Lib.hid (show Calls Tryz.prog 80 #[.pointer (some ⟨P, 0, none⟩), .func (.func 207) #[] #[.pointer (some ⟨w.heap.size, 0, none⟩), .pointer (some ⟨w.heap.size + 1, 0, none⟩)]] W2 (QP P g cap ts nest (nestT nest l x) W2) from
    qwithin_any P g cap ts nest l 207 _ x W2 hn (h.below B2.out) eg fun hn1 W hs hg => by
      have hb := HB.out
      have hsz := hz2.out
      have hgs := hg.size
      have c1 : ∀ b, b < W2.heap.size → b ≠ P → W.cell? ⟨b, 0, none⟩ = W2.cell? ⟨b, 0, none⟩ := fun b hb hp => World.cell?_of_block (hg.block b hb (fun e => hp (Option.some.inj e)))
      rw [hx]
      exact qprefix1_any P g cap ts he htk (nest + 1) l md K fs w.heap.size (w.heap.size + 1) W hK hs ((c1 _ (by omega) (by omega)).trans hp2.out.1) ((c1 _ (by omega) (by omega)).trans hp2.out.2) (by omega) (by omega) (hread hn1))
  rw [← hx]
  clear hx
  generalize nestT nest l x = x at C ⊢
  have hpr := hp2.out.1
  clear h htk he eg hread
  unfold Enters at hK
  go_enter Tryz.func183, Tryz.ntmps183
  go_upto_region 1 with fail
  rw [← hW1, ← hW2]
  clear hW1 hW2
  go_wp2_with fail
  (with_reducible refine Calls.mono C.out ?_)
  intro e w3 hq
  cases x with
  | error q =>
    obtain ⟨k, p⟩ := q
    obtain ⟨rfl, hg⟩ := hq
    refine And.intro rfl ?_
    exact ⟨rfl, grown_trans (grown_of B2.out) hg⟩
  | ok q =>
    obtain ⟨t, r⟩ := q
    obtain ⟨a, cp, rfl, hs, hg, hl, hd⟩ := hq
    have Z3 := Lib.hid (Z2.out.grown hg (fun e => by have := Option.some.inj e; have := HB.out; omega))
    have HS := Lib.hid hs
    have HG := Lib.hid hg
    have HL := Lib.hid hl
    have HD := Lib.hid hd
    obtain ⟨⟨z0, z1, z2, z3, z4, z5⟩, ⟨f0, f1, f2, f3, f4, f5⟩⟩ := Z3.out.cells
    have hzl := Z3.out.lt
    clear hs hg hl hd C
    unfold trV
    go_wp2_with fail
    refine bodyPost_ret (v := trV t a cp) (by simp [results, Tryz.results183, go_sem, trV, z0, z1, z2, z3, z4, z5]) rfl ?_
    have hz := hz2.out
    have hb := HB.out
    exact QP.fin HS.out (grown_trans (grown_of B2.out) HG.out) (by omega) (by omega) HL.out (fun c hc => ⟨by have := hc.1; omega, hc.2, by have := hc.1; omega⟩) HD.out
set_option maxHeartbeats 4000000 in
theorem qunary_any (P g cap : Nat) (ts : List Tk) (he : Ends ts) (htk : ∀ t ∈ ts, TkOk t) (l : List Tk) (hA : CQ 236 .atom P g cap ts l) (hU : isT tMinus l = true → CQ 223 .unary P g cap ts (stepL l)) : CQ 223 .unary P g cap ts l := by
  intro nest w hle h
  obtain ⟨W1, hW1⟩ : ∃ W, W = w.alloc (.cells #[.int .i64 0, .string ⟨#[]⟩, .int .i64 0, .slice none 0 0, .int .i64 0, .int .i64 0] 67) := ⟨_, rfl⟩
  have B1 := Lib.hid (show Below w.heap.size w W1 from hW1 ▸ nbelow1 _ _)
  have Z1 := Lib.hid (show T6 w.heap.size 0 ⟨#[]⟩ 0 none 0 0 0 0 W1 from hW1 ▸ T6.make w _ _ _ _ _ _ _ _)
  have HB := Lib.hid h.blocks
  have S1 := Lib.hid (h.below B1.out)
  have C1 := Lib.hid (show Calls Tryz.prog 82 #[.pointer (some ⟨P, 0, none⟩), .string ⟨#[45]⟩] W1 (fun e w' => e = .returned (.bool (isT tMinus l)) ∧ Below W1.heap.size W1 w') from qis_s P g cap ts nest l ⟨#[45]⟩ W1 S1.out)
  have eg : Enters 223 := enters_of Tryz.func223 (by kernel_rfl) rfl
  cases hm : isT tMinus l
  · have HX := Lib.hid (show rd .unary nest l = rd .atom nest l by rw [rd_eq]; exact if_neg (by rw [hm]; decide))
    rw [hm] at C1
    rw [HX.out]
    have C2 := Lib.hid (fun W hs => hA nest W hle hs)
    generalize rd .atom nest l = x at C2 ⊢
    clear h hA hU he htk eg hm
    go_enter Tryz.func223, Tryz.ntmps223
    go_wp2_with fail
    rw [← hW1]
    clear hW1
    (with_reducible refine Calls.mono C1.out ?_)
    rintro e W2 ⟨rfl, hb⟩
    have B2 := Lib.hid (B1.out.trans (hb.mono B1.out.size))
    have Z2 := Lib.hid (Z1.out.below hb)
    have C := Lib.hid (C2.out W2 (S1.out.below hb))
    clear hb C1 C2
    go_wp2_with fail
    (with_reducible refine Calls.mono C.out ?_)
    intro e w3 hq
    cases x with
    | error q =>
      obtain ⟨k, p⟩ := q
      obtain ⟨rfl, hg⟩ := hq
      refine And.intro rfl ?_
      exact ⟨rfl, grown_trans (grown_of B2.out) hg⟩
    | ok q =>
      obtain ⟨t, r⟩ := q
      obtain ⟨a, cp, rfl, hs, hg, hl, hd⟩ := hq
      have Z3 := Lib.hid (Z2.out.grown hg (fun e => by have := Option.some.inj e; have := HB.out; omega))
      have HS := Lib.hid hs
      have HG := Lib.hid hg
      have HL := Lib.hid hl
      have HD := Lib.hid hd
      obtain ⟨⟨z0, z1, z2, z3, z4, z5⟩, ⟨f0, f1, f2, f3, f4, f5⟩⟩ := Z3.out.cells
      have hzl := Z3.out.lt
      clear hs hg hl hd C
      unfold trV
      go_wp2_with fail
      refine bodyPost_ret (v := trV t a cp) (by simp [results, Tryz.results223, go_sem, trV, z0, z1, z2, z3, z4, z5]) rfl ?_
      exact box_ret HS.out (grown_of B2.out) Z2.out.lt HG.out HL.out HD.out ⟨HB.out.1, HB.out.2.1⟩
  · have HX := Lib.hid (show rd .unary nest l = nestT nest l ((rd .unary (nest + 1) (stepL l)).then fun t r => made (mkN 12 (hd l).text 0 [t] (hd l).pos) r) by rw [rd_eq]; exact if_pos hm)
    rw [hm] at C1
    rw [HX.out]
    have C2 := Lib.hid (fun W hs => show Calls Tryz.prog 183 #[.pointer (some ⟨P, 0, none⟩), .func (.func 223) #[.pointer (some ⟨P, 0, none⟩)] #[]] W _ from qprefix_any P g cap ts he htk nest l .unary 223 #[.pointer (some ⟨P, 0, none⟩)] W hle eg hs fun hn1 W hs => hU hm (nest + 1) W hn1 hs)
    generalize nestT nest l _ = x at C2 ⊢
    clear h hA hU he htk eg hm
    go_enter Tryz.func223, Tryz.ntmps223
    go_wp2_with fail
    rw [← hW1]
    clear hW1
    (with_reducible refine Calls.mono C1.out ?_)
    rintro e W2 ⟨rfl, hb⟩
    have B2 := Lib.hid (B1.out.trans (hb.mono B1.out.size))
    have Z2 := Lib.hid (Z1.out.below hb)
    have C := Lib.hid (C2.out W2 (S1.out.below hb))
    clear hb C1 C2
    go_wp2_with fail
    (with_reducible refine Calls.mono C.out ?_)
    intro e w3 hq
    cases x with
    | error q =>
      obtain ⟨k, p⟩ := q
      obtain ⟨rfl, hg⟩ := hq
      refine And.intro rfl ?_
      exact ⟨rfl, grown_trans (grown_of B2.out) hg⟩
    | ok q =>
      obtain ⟨t, r⟩ := q
      obtain ⟨a, cp, rfl, hs, hg, hl, hd⟩ := hq
      have Z3 := Lib.hid (Z2.out.grown hg (fun e => by have := Option.some.inj e; have := HB.out; omega))
      have HS := Lib.hid hs
      have HG := Lib.hid hg
      have HL := Lib.hid hl
      have HD := Lib.hid hd
      obtain ⟨⟨z0, z1, z2, z3, z4, z5⟩, ⟨f0, f1, f2, f3, f4, f5⟩⟩ := Z3.out.cells
      have hzl := Z3.out.lt
      clear hs hg hl hd C
      unfold trV
      go_wp2_with fail
      refine bodyPost_ret (v := trV t a cp) (by simp [results, Tryz.results223, go_sem, trV, z0, z1, z2, z3, z4, z5]) rfl ?_
      exact box_ret HS.out (grown_of B2.out) Z2.out.lt HG.out HL.out HD.out ⟨HB.out.1, HB.out.2.1⟩
end Go.Proofs.YtcndknkdhlmdnaaGreatDoor
