/-
  Texts that the statements' proofs rest on, one behind another: SxQ, SxR, SxS.
-/
import Derived.Test.YtcndknkdhlmdnaaGreatDoorS17
import Derived.Test.YtcndknkdhlmdnaaGreatDoorS02

/-
  The program's parser: all its parts together: an expression.
-/
namespace Go.Proofs.YtcndknkdhlmdnaaGreatDoor
open Go.RowKit
set_option maxRecDepth 100000

theorem qatom_any (P g cap : Nat) (ts : List Tk) (he : Ends ts) (htk : ∀ t ∈ ts, TkOk t) (l : List Tk) (hE : ∀ r, r.length < l.length → CQ 55 .expr P g cap ts r) : CQ 236 .atom P g cap ts l := by
  intro nest w hn h
  rw [rd_eq]
  by_cases h6 : (hd l).kind = 6
  · rw [show body rd .atom nest l = .ok (mkN 5 [] (hd l).n [] (hd l).pos, stepL l) from if_pos h6]
    exact qatom_num P g cap ts he htk nest l w h h6
  by_cases h5 : (hd l).kind = 5
  · rw [show body rd .atom nest l = .ok (mkN 6 [] (hd l).n [] (hd l).pos, stepL l) from (if_neg h6).trans (if_pos h5)]
    exact qatom_day P g cap ts he htk nest l w h h5
  by_cases h4 : (hd l).kind = 4
  · rw [show body rd .atom nest l = .ok (mkN 7 (hd l).text 0 [] (hd l).pos, stepL l) from (if_neg h6).trans ((if_neg h5).trans (if_pos h4))]
    exact qatom_cur P g cap ts he htk nest l w h h4
  by_cases h1 : (hd l).kind = 1 ∨ (hd l).kind = 3
  · rw [show body rd .atom nest l = callI nest l from (if_neg h6).trans ((if_neg h5).trans ((if_neg h4).trans (if_pos h1)))]
    exact qatom_name P g cap ts he htk nest l w h hn h1 hE
  have hN : (hd l).kind ≠ 6 ∧ (hd l).kind ≠ 5 ∧ (hd l).kind ≠ 4 ∧ (hd l).kind ≠ 1 ∧ (hd l).kind ≠ 3 := ⟨h6, h5, h4, fun e => h1 (.inl e), fun e => h1 (.inr e)⟩
  have q : ∀ {y : Rd} {x : Rd}, y = x → Calls Tryz.prog 236 #[.pointer (some ⟨P, 0, none⟩)] w (QP P g cap ts nest x w) → Calls Tryz.prog 236 #[.pointer (some ⟨P, 0, none⟩)] w (QP P g cap ts nest y w) := fun e c => e ▸ c
  have base : ∀ {x : Rd}, (if isT tTrue l = true then .ok (mkN 8 [] 1 [] (hd l).pos, stepL l) else if isT tFalse l = true then .ok (mkN 8 [] 0 [] (hd l).pos, stepL l)
      else if isT tFeed l = true then kindT 7 (stepL l) fun s r => .ok (mkN 9 s.text 0 [] (hd l).pos, r)
      else if isT tPick l = true then kindT 7 (stepL l) fun s r => wantT tOpen r fun r => (rd .expr nest r).then fun a r => wantT tComma r fun r => (rd .expr nest r).then fun b r => wantT tComma r fun r => (rd .expr nest r).then fun c r => wantT tShut r fun r => made (mkN 15 s.text 0 [a, b, c] (hd l).pos) r
      else if isT tOpen l = true then (rd .expr nest (stepL l)).then fun x r => wantT tShut r fun r => .ok (x, r)
      else .error (74, (hd l).pos) : Rd) = x → body rd .atom nest l = x := fun e => (if_neg h6).trans ((if_neg h5).trans ((if_neg h4).trans ((if_neg h1).trans e)))
  cases hT : isT tTrue l
  case true => exact q (base (by rw [hT, if_pos rfl])) (qatom_true P g cap ts he htk nest l w h hN hT)
  cases hF : isT tFalse l
  case true => exact q (base (by rw [hT, if_neg (by decide), hF, if_pos rfl])) (qatom_false P g cap ts he htk nest l w h hN hT hF)
  cases hD : isT tFeed l
  case true => exact q (base (by rw [hT, if_neg (by decide), hF, if_neg (by decide), hD, if_pos rfl])) (qatom_feed P g cap ts he htk nest l w h hN hT hF hD)
  cases hK : isT tPick l
  case true => exact q (base (by rw [hT, if_neg (by decide), hF, if_neg (by decide), hD, if_neg (by decide), hK, if_pos rfl])) (qatom_pick P g cap ts he htk nest l w h hN hT hF hD hn hK hE)
  cases hO : isT tOpen l
  case true => exact q (base (by rw [hT, if_neg (by decide), hF, if_neg (by decide), hD, if_neg (by decide), hK, if_neg (by decide), hO, if_pos rfl])) (qatom_paren P g cap ts he htk nest l w h hN hT hF hD hK hn hO hE)
  exact q (base (by rw [hT, if_neg (by decide), hF, if_neg (by decide), hD, if_neg (by decide), hK, if_neg (by decide), hO, if_neg (by decide)])) (qatom_none P g cap ts he htk nest l w h hN hT hF hD hK hO)
/-- what all parts do of these tokens -/
structure AllQ (P g cap : Nat) (ts l : List Tk) : Prop where
  e : CQ 55 .expr P g cap ts l
  o : CQ 83 (.chain 0) P g cap ts l
  a : CQ 121 (.chain 1) P g cap ts l
  n : CQ 154 .not P g cap ts l
  s : CQ 184 (.chain 2) P g cap ts l
  p : CQ 208 (.chain 3) P g cap ts l
  u : CQ 223 .unary P g cap ts l
theorem qall_any (P g cap : Nat) (ts : List Tk) (he : Ends ts) (htk : ∀ t ∈ ts, TkOk t) : ∀ (N : Nat) (l : List Tk), l.length < N → AllQ P g cap ts l
  | 0, l, h => absurd h (Nat.not_lt_zero _)
  | N + 1, l, h => by
    have ih : ∀ r, r.length < N → AllQ P g cap ts r := fun r hr => qall_any P g cap ts he htk N r hr
    have hA : ∀ l : List Tk, l.length ≤ N → CQ 236 .atom P g cap ts l := fun l hl => qatom_any P g cap ts he htk l fun r hr => (ih r (by omega)).e
    have hU : ∀ l : List Tk, l.length ≤ N → CQ 223 .unary P g cap ts l := fun l hl => qunary_any P g cap ts he htk l (hA l hl) fun ht => (ih _ (by have := isT_len ht; omega)).u
    have hP : ∀ l : List Tk, l.length ≤ N → CQ 208 (.chain 3) P g cap ts l := fun l hl => qprod_any P g cap ts he htk l fun r hr => hU r (by omega)
    have hS : ∀ l : List Tk, l.length ≤ N → CQ 184 (.chain 2) P g cap ts l := fun l hl => qsum_any P g cap ts he htk l fun r hr => hP r (by omega)
    have hN : ∀ l : List Tk, l.length ≤ N → CQ 154 .not P g cap ts l := fun l hl => qnot_any P g cap ts he htk l (fun r hr => hS r (by omega)) fun ht => (ih _ (by have := isT_len ht; omega)).n
    have hD : ∀ l : List Tk, l.length ≤ N → CQ 121 (.chain 1) P g cap ts l := fun l hl => qand_any P g cap ts he htk l fun r hr => hN r (by omega)
    have hO : ∀ l : List Tk, l.length ≤ N → CQ 83 (.chain 0) P g cap ts l := fun l hl => qor_any P g cap ts he htk l fun r hr => hD r (by omega)
    have hl : l.length ≤ N := by omega
    exact ⟨qexpr_any P g cap ts he htk l (hO l hl) fun r hr => (ih r (by omega)).e, hO l hl, hD l hl, hN l hl, hS l hl, hP l hl, hU l hl⟩
/-- the program's parser reads an expression -/
theorem qexpr_all (P g cap : Nat) (ts : List Tk) (he : Ends ts) (htk : ∀ t ∈ ts, TkOk t) (l : List Tk) : CQ 55 .expr P g cap ts l := (qall_any P g cap ts he htk _ l (Nat.lt_succ_self _)).e
end Go.Proofs.YtcndknkdhlmdnaaGreatDoor

/-
  The program's parser: a node whose kids are read one by one.
-/
namespace Go.Proofs.YtcndknkdhlmdnaaGreatDoor
open Go.RowKit
set_option maxRecDepth 100000

theorem own_set {W : World} {B T k g n cap : Nat} {xs : List Value} (h : W.ownsRow B T k (.slice (some ⟨g, 0, none⟩) n cap) n xs) (j : Nat) (v : Value) : (W.setCell ⟨g, j, none⟩ v).ownsRow B T k (.slice (some ⟨g, 0, none⟩) n cap) n (xs.set j v) := by
  obtain ⟨h1, h2⟩ := h
  refine ⟨by rw [List.length_set]; exact h1, .inr ?_⟩
  rcases h2 with ⟨e, -⟩ | ⟨g', cap', cur, e, hb, hg, h3, h4, h5, h6⟩
  · obtain ⟨e, -⟩ := Value.slice.inj e; cases e
  · obtain ⟨e1, -, e2⟩ := Value.slice.inj e
    cases e1; subst e2
    refine ⟨g, cap, cur.set! j v, rfl, hb, heap_set hg j v, h3, h4, by simpa using h5, ?_⟩
    rw [Array.set!_eq_setIfInBounds, Array.toList_setIfInBounds, List.take_set, h6]
theorem own_cur {W : World} {B T k g n cap : Nat} {xs : List Value} (h : W.ownsRow B T k (.slice (some ⟨g, 0, none⟩) n cap) n xs) : ∃ cur, W.heap[g]? = some (.cells cur T (0, 0)) := by
  obtain ⟨-, h2⟩ := h
  rcases h2 with ⟨e, -⟩ | ⟨g', cap', cur, e, hb, hg, -⟩
  · obtain ⟨e, -⟩ := Value.slice.inj e; cases e
  · obtain ⟨e1, -, e2⟩ := Value.slice.inj e
    cases e1
    exact ⟨cur, hg⟩
/-- a node written over the cells from a place on -/
def putO (W : World) (b o : Nat) (t : Nd) (a : Option Addr) (cp : Nat) : World := ((((W.setCell ⟨b, o, none⟩ (.int .i64 t.kind)).setCell ⟨b, o + 1, none⟩ (.string t.text)).setCell ⟨b, o + 2, none⟩ (.int .i64 t.n)).setCell ⟨b, o + 3, none⟩ (.slice a t.kids.length cp)).setCell ⟨b, o + 4, none⟩ (.int .i64 t.place)
def zero5 : List Value := [.int .i64 0, .string ⟨#[]⟩, .int .i64 0, .slice none 0 0, .int .i64 0]
theorem own_put {W : World} {B T g n cap : Nat} {xs : List Value} (hx : xs.length = n * 5) (h : W.ownsRow B T 5 (.slice (some ⟨g, 0, none⟩) (n + 1) cap) (n + 1) (xs ++ zero5)) (e : Ent) : (putO W g (n * 5) e.1 e.2.1 e.2.2).ownsRow B T 5 (.slice (some ⟨g, 0, none⟩) (n + 1) cap) (n + 1) (xs ++ ndC e) := by
  have h5 := own_set (own_set (own_set (own_set (own_set h (n * 5) (.int .i64 e.1.kind)) (n * 5 + 1) (.string e.1.text)) (n * 5 + 2) (.int .i64 e.1.n)) (n * 5 + 3) (.slice e.2.1 e.1.kids.length e.2.2)) (n * 5 + 4) (.int .i64 e.1.place)
  have e5 : (((((xs ++ zero5).set (n * 5) (.int .i64 e.1.kind)).set (n * 5 + 1) (.string e.1.text)).set (n * 5 + 2) (.int .i64 e.1.n)).set (n * 5 + 3) (.slice e.2.1 e.1.kids.length e.2.2)).set (n * 5 + 4) (.int .i64 e.1.place) = xs ++ ndC e := by
    rw [← hx]
    simp [zero5, ndC]
  rw [e5] at h5
  exact h5
theorem own_slots {W : World} {B T g n cap : Nat} {xs : List Value} (hx : xs.length = n * 5) (h : W.ownsRow B T 5 (.slice (some ⟨g, 0, none⟩) (n + 1) cap) (n + 1) (xs ++ zero5)) : (W.cell? ⟨g, n * 5, none⟩ = some (.int .i64 0) ∧ W.cell? ⟨g, n * 5 + 1, none⟩ = some (.string ⟨#[]⟩) ∧ W.cell? ⟨g, n * 5 + 2, none⟩ = some (.int .i64 0) ∧ W.cell? ⟨g, n * 5 + 3, none⟩ = some (.slice none 0 0) ∧ W.cell? ⟨g, n * 5 + 4, none⟩ = some (.int .i64 0)) ∧
    (W.frozen? ⟨g, n * 5, none⟩ = false ∧ W.frozen? ⟨g, n * 5 + 1, none⟩ = false ∧ W.frozen? ⟨g, n * 5 + 2, none⟩ = false ∧ W.frozen? ⟨g, n * 5 + 3, none⟩ = false ∧ W.frozen? ⟨g, n * 5 + 4, none⟩ = false) := by
  have hc := h.cells (g := g) rfl
  obtain ⟨cur, hg⟩ := own_cur h
  have q : ∀ i u, zero5[i]? = some u → W.cell? ⟨g, n * 5 + i, none⟩ = some u := fun i u hu => by
    have := hc (n * 5 + i) u (by rw [List.getElem?_append_right (by omega), hx, Nat.add_sub_cancel_left]; exact hu)
    rw [Go.WideShapes.add_plain, Nat.zero_add] at this
    exact this
  refine ⟨⟨q 0 _ rfl, q 1 _ rfl, q 2 _ rfl, q 3 _ rfl, q 4 _ rfl⟩, ?_, ?_, ?_, ?_, ?_⟩ <;> simp [World.frozen?, hg]
theorem putO_block (W : World) (b o : Nat) (t : Nd) (a : Option Addr) (cp : Nat) {d : Nat} (hd : d ≠ b) : (putO W b o t a cp).heap[d]? = W.heap[d]? :=
  (Below.heap_setCell _ _ _ _ hd).trans ((Below.heap_setCell _ _ _ _ hd).trans ((Below.heap_setCell _ _ _ _ hd).trans ((Below.heap_setCell _ _ _ _ hd).trans (Below.heap_setCell _ _ _ _ hd))))
theorem own_heap {W W' : World} {B T k g n cap : Nat} {xs : List Value} (h : W.ownsRow B T k (.slice (some ⟨g, 0, none⟩) n cap) n xs) (hg : W'.heap[g]? = W.heap[g]?) : W'.ownsRow B T k (.slice (some ⟨g, 0, none⟩) n cap) n xs := by
  obtain ⟨h1, h2⟩ := h
  refine ⟨h1, .inr ?_⟩
  rcases h2 with ⟨e, -⟩ | ⟨g', cap', cur, e, hb, hg', r⟩
  · obtain ⟨e, -⟩ := Value.slice.inj e; cases e
  · obtain ⟨e1, -, e2⟩ := Value.slice.inj e
    cases e1; subst e2
    exact ⟨g, cap, cur, rfl, hb, hg.trans hg', r⟩
/-- a node's kids, as they are read -/
def NodeJ (base nb : Nat) (k : Int) (s : ByteArray) (p : Int) (acc : List Nd) (W : World) : Prop := base ≤ W.heap.size ∧ ∃ (L : List Ent) (ao : Option Addr) (cp : Nat), L.map (·.1) = acc ∧ W.heap[nb]? = some (.cells #[.int .i64 k, .string s, .int .i64 0, .slice ao L.length cp, .int .i64 p] 24 (0, 0)) ∧
  W.ownsRow base 24 5 (.slice ao L.length cp) L.length (entC L) ∧ ∀ e ∈ L, e.1.lies (fun c => base ≤ c ∧ c < W.heap.size ∧ (Value.slice ao L.length cp).ownBlock ≠ some c) W e.2.1 e.2.2
theorem NodeJ.grown {base nb P : Nat} {k p : Int} {s : ByteArray} {acc : List Nd} {W W' : World} (h : NodeJ base nb k s p acc W) (g : W.grownBy W' (some P)) (hP : P < base) (hk : nb ≠ P) : NodeJ base nb k s p acc W' := by
  obtain ⟨h2, L, ao, cp, h3, h4, h5, h6⟩ := h
  have hkb : nb < W.heap.size := (Array.getElem?_eq_some_iff.1 h4).1
  refine ⟨Nat.le_trans h2 g.size, L, ao, cp, h3, (g.block nb hkb (fun e => hk (Option.some.inj e))).trans h4, h5.kept g ?_, fun e he => ?_⟩
  · cases hv : (Value.slice ao L.length cp).ownBlock with
    | none => exact .inl rfl
    | some c => exact .inr (fun e => by have := (h5.lt c hv).1; cases e; omega)
  · exact lies_move (h6 e he) (fun c hc => g.block c hc.2.1 (fun e => by have := Option.some.inj e; have := hc.1; omega)) fun c hc => ⟨hc.1, Nat.lt_of_lt_of_le hc.2.1 g.size, hc.2.2⟩
/-- one kid more: from the world w4 of the old kids by an append to w6, by stores to W -/
theorem NodeJ.snoc {base nb gb cap' : Nat} {k p : Int} {s : ByteArray} {L : List Ent} {ao : Option Addr} {cp : Nat} {w4 w6 W : World} {e : Ent} {H : Nat} {av : Nat → Prop} (hbs : base ≤ w4.heap.size) (hnb : nb < base)
    (hl : ∀ u ∈ L, u.1.lies (fun c => base ≤ c ∧ c < w4.heap.size ∧ (Value.slice ao L.length cp).ownBlock ≠ some c) w4 u.2.1 u.2.2)
    (he : e.1.lies av w4 e.2.1 e.2.2) (hav : ∀ c, av c → base ≤ c ∧ c < w4.heap.size ∧ (Value.slice ao L.length cp).ownBlock ≠ some c)
    (hg : ∀ d, d < w4.heap.size → (Value.slice ao L.length cp).ownBlock ≠ some d → w6.heap[d]? = w4.heap[d]?) (hat : (Value.slice ao L.length cp).ownBlock = some gb ∨ gb = H) (hH : w4.heap.size ≤ H) (hsz : w4.heap.size ≤ w6.heap.size)
    (hW : ∀ d, d ≠ nb → d ≠ gb → W.heap[d]? = w6.heap[d]?) (hWs : W.heap.size = w6.heap.size) (hWn : W.heap[nb]? = some (.cells #[.int .i64 k, .string s, .int .i64 0, .slice (some ⟨gb, 0, none⟩) (L.length + 1) cap', .int .i64 p] 24 (0, 0)))
    (hWo : W.ownsRow base 24 5 (.slice (some ⟨gb, 0, none⟩) (L.length + 1) cap') (L.length + 1) (entC L ++ ndC e)) : NodeJ base nb k s p (L.map (·.1) ++ [e.1]) W := by
  have hlen : (L ++ [e]).length = L.length + 1 := by simp
  have hgb2 : ∀ c, c < w4.heap.size → (Value.slice ao L.length cp).ownBlock ≠ some c → c ≠ gb := fun c hc hne e => by
    subst e
    rcases hat with e | e
    · exact hne e
    · omega
  have key : ∀ {av : Nat → Prop} {u : Nd} {ua : Option Addr} {uc : Nat}, u.lies av w4 ua uc → (∀ d, av d → base ≤ d ∧ d < w4.heap.size ∧ (Value.slice ao L.length cp).ownBlock ≠ some d) → u.lies (fun d => base ≤ d ∧ d < W.heap.size ∧ (Value.slice (some ⟨gb, 0, none⟩) (L ++ [e]).length cap').ownBlock ≠ some d) W ua uc := fun hl hav =>
    lies_move hl (fun d hd => (hW d (by have := (hav d hd).1; omega) (hgb2 d (hav d hd).2.1 (hav d hd).2.2)).trans (hg d (hav d hd).2.1 (hav d hd).2.2)) fun d hd => ⟨(hav d hd).1, by have := (hav d hd).2.1; omega, fun e => hgb2 d (hav d hd).2.1 (hav d hd).2.2 (Option.some.inj e).symm⟩
  refine ⟨by omega, L ++ [e], some ⟨gb, 0, none⟩, cap', by rw [List.map_append]; rfl, by rw [hlen]; exact hWn, by rw [ent_snoc, hlen]; exact hWo, fun u hu => ?_⟩
  rcases List.mem_append.1 hu with hu | hu
  · exact key (hl u hu) fun d hd => hd
  · obtain rfl := List.mem_singleton.1 hu
    exact key he hav
end Go.Proofs.YtcndknkdhlmdnaaGreatDoor

/-
  The program's parser: a definition's parameters.
-/
namespace Go.Proofs.YtcndknkdhlmdnaaGreatDoor
open Go.RowKit
set_option maxRecDepth 100000

def LetJ (base nb pb P : Nat) (k : Int) (s : ByteArray) (p : Int) (acc : List Nd) (W : World) : Prop := W.cell? ⟨pb, 0, none⟩ = some (.pointer (some ⟨P, 0, none⟩)) ∧ NodeJ base nb k s p acc W
theorem ent_length (L : List Ent) : (entC L).length = L.length * 5 := by
  induction L with
  | nil => rfl
  | cons e L ih => unfold entC at ih ⊢; rw [List.flatMap_cons, List.length_append, ih, List.length_cons]; show 5 + _ = _; omega
theorem zero_one : ∀ u ∈ zero5, u.oneCell' = true := by
  intro u hu
  unfold zero5 at hu
  simp only [List.mem_cons, List.not_mem_nil, or_false] at hu
  rcases hu with rfl | rfl | rfl | rfl | rfl <;> rfl
theorem param_lies {T : Tk} (h : TkOk T) (av : Nat → Prop) (W : World) : (mkN 4 T.text 0 [] T.pos).lies av W none 0 :=
  Nd.lies.mk' rfl (by show T.text.toArray.size ≤ maxLen; unfold maxLen; have := h.2.2; simp; omega) rfl h.2.1 (Nat.le_refl _) (Nat.zero_le _) trivial
/-- what the two stores leave -/
structure Fin2 (nb gb base cap' : Nat) (k : Int) (s : ByteArray) (p : Int) (L : List Ent) (e : Ent) (w6 W : World) : Prop where
  other : ∀ d, d ≠ nb → d ≠ gb → W.heap[d]? = w6.heap[d]?
  size : W.heap.size = w6.heap.size
  node : W.heap[nb]? = some (.cells #[.int .i64 k, .string s, .int .i64 0, .slice (some ⟨gb, 0, none⟩) (L.length + 1) cap', .int .i64 p] 24 (0, 0))
  own : W.ownsRow base 24 5 (.slice (some ⟨gb, 0, none⟩) (L.length + 1) cap') (L.length + 1) (entC L ++ ndC e)
  os : W.os = w6.os
  tape : W.tape = w6.tape
  output : W.output = w6.output
theorem putO_grown (W : World) (b o : Nat) (t : Nd) (a : Option Addr) (cp : Nat) : W.grownBy (putO W b o t a cp) (some b) :=
  grown_trans (grown_trans (grown_trans (grown_trans (grown_set W b o _) (grown_set _ b (o + 1) _)) (grown_set _ b (o + 2) _)) (grown_set _ b (o + 3) _)) (grown_set _ b (o + 4) _)
section
variable {nb gb base cap' : Nat} {k p : Int} {s : ByteArray} {L : List Ent} {ao : Option Addr} {cp : Nat} {w6 : World}
theorem final_a (hn : w6.heap[nb]? = some (.cells #[.int .i64 k, .string s, .int .i64 0, .slice ao L.length cp, .int .i64 p] 24 (0, 0))) (ho : w6.ownsRow base 24 5 (.slice (some ⟨gb, 0, none⟩) (L.length + 1) cap') (L.length + 1) (entC L ++ zero5)) (hx : (entC L).length = L.length * 5) (hne : ¬ gb = nb) (e : Ent) :
    Fin2 nb gb base cap' k s p L e w6 ((putO w6 gb (L.length * 5) e.1 e.2.1 e.2.2).setCell ⟨nb, 3, none⟩ (.slice (some ⟨gb, 0, none⟩) (L.length + 1) cap')) :=
  ⟨fun d h1 h2 => (Below.heap_setCell _ _ _ _ h1).trans (putO_block _ _ _ _ _ _ h2), by simp [World.setCell, putO], heap_set ((putO_block w6 gb _ _ _ _ (fun e => hne e.symm)).trans hn) 3 _, own_heap (own_put hx ho e) (Below.heap_setCell _ _ _ _ hne), (grown_set _ nb 3 _).os.trans (putO_grown _ _ _ _ _ _).os, (grown_set _ nb 3 _).tape.trans (putO_grown _ _ _ _ _ _).tape, (grown_set _ nb 3 _).output.trans (putO_grown _ _ _ _ _ _).output⟩
theorem final_b (hn : w6.heap[nb]? = some (.cells #[.int .i64 k, .string s, .int .i64 0, .slice ao L.length cp, .int .i64 p] 24 (0, 0))) (ho : w6.ownsRow base 24 5 (.slice (some ⟨gb, 0, none⟩) (L.length + 1) cap') (L.length + 1) (entC L ++ zero5)) (hx : (entC L).length = L.length * 5) (hne : ¬ gb = nb) (e : Ent) :
    Fin2 nb gb base cap' k s p L e w6 (putO (w6.setCell ⟨nb, 3, none⟩ (.slice (some ⟨gb, 0, none⟩) (L.length + 1) cap')) gb (L.length * 5) e.1 e.2.1 e.2.2) :=
  ⟨fun d h1 h2 => (putO_block _ _ _ _ _ _ h2).trans (Below.heap_setCell _ _ _ _ h1), by simp [World.setCell, putO], (putO_block _ _ _ _ _ _ (fun e => hne e.symm)).trans (heap_set hn 3 _), own_put hx (own_heap ho (Below.heap_setCell _ _ _ _ hne)) e, (putO_grown _ _ _ _ _ _).os.trans (grown_set _ nb 3 _).os, (putO_grown _ _ _ _ _ _).tape.trans (grown_set _ nb 3 _).tape, (putO_grown _ _ _ _ _ _).output.trans (grown_set _ nb 3 _).output⟩
end
/-- one parameter more -/
theorem one_fin {P g cap : Nat} {ts : List Tk} {nest base nb pb gb cap' : Nat} {k p : Int} {s : ByteArray} {L : List Ent} {ao : Option Addr} {cp : Nat} {acc : List Nd} {e : Ent} {q : List Tk} {w W4 W5 w6 W : World} (hP : P < base ∧ g < base) (hk : nb ≠ P ∧ nb ≠ g ∧ nb < base) (hp : pb ≠ P ∧ pb < base ∧ pb ≠ nb)
    (hG : w.grownBy W4 (some P)) (hS : SQ P g cap ts nest q W4) (hc : W4.cell? ⟨pb, 0, none⟩ = some (.pointer (some ⟨P, 0, none⟩))) (hb : base ≤ W4.heap.size) (hM : L.map (·.1) = acc) (hOB : ∀ d, (Value.slice ao L.length cp).ownBlock = some d → base ≤ d ∧ d < W4.heap.size)
    (hL : ∀ e ∈ L, e.1.lies (fun c => base ≤ c ∧ c < W4.heap.size ∧ (Value.slice ao L.length cp).ownBlock ≠ some c) W4 e.2.1 e.2.2) {av : Nat → Prop} (hE : e.1.lies av W4 e.2.1 e.2.2) (hav : ∀ c, av c → base ≤ c ∧ c < W4.heap.size ∧ (Value.slice ao L.length cp).ownBlock ≠ some c) (B5 : Below W4.heap.size W4 W5) (hG6 : W5.grownBy w6 (Value.slice ao L.length cp).ownBlock) (hat : (Value.slice ao L.length cp).ownBlock = some gb ∨ gb = W5.heap.size) (hz5 : W4.heap.size ≤ W5.heap.size)
    (hgb : base ≤ gb ∧ gb < w6.heap.size) (hF : Fin2 nb gb base cap' k s p L e w6 W) : OneQ P g cap ts nest nb base (LetJ base nb pb P k s p) acc (.ok (e.1, q)) w (.returned (.tuple #[])) W := by
  have h6 := hG6.size
  have hsW := hF.size
  have hlow : ∀ d, d < base → (Value.slice ao L.length cp).ownBlock ≠ some d := fun d hd e => by have := (hOB d e).1; omega
  have h1 : ∀ d, d < W4.heap.size → (Value.slice ao L.length cp).ownBlock ≠ some d → w6.heap[d]? = W4.heap[d]? := fun d hd hne => (hG6.block d (by omega) (fun e => hne e.symm)).trans (B5.block d hd)
  have hgbk : ∀ d, d < base → d ≠ gb := fun d hd e => by omega
  have h2 : ∀ d, d < base → d ≠ nb → W.heap[d]? = W4.heap[d]? := fun d hd hn => (hF.other d hn (hgbk d hd)).trans (h1 d (by omega) (hlow d hd))
  refine ⟨⟨hF.os.trans (hG6.os.trans (B5.os.trans hG.os)), hF.tape.trans (hG6.tape.trans (B5.tape.trans hG.tape)), hF.output.trans (hG6.output.trans (B5.output.trans hG.output)), by have := hG.size; omega, fun d hdB hdw hdP hdk => (h2 d hdB hdk).trans (hG.block d hdw (fun e => hdP (Option.some.inj e)))⟩, rfl, ?_, ?_, ?_⟩
  · refine hS.keeps (fun d hd => ?_) (by omega)
    rcases hd with rfl | rfl
    · exact h2 _ hP.1 (fun e => hk.1 e.symm)
    · exact h2 _ hP.2 (fun e => hk.2.1 e.symm)
  · exact (World.cell?_of_block (h2 pb hp.2.1 hp.2.2)).trans hc
  · rw [← hM]
    exact NodeJ.snoc hb hk.2.2 hL hE hav h1 hat (by omega) (by omega) hF.other hsW hF.node hF.own
set_option maxHeartbeats 8000000 in
theorem qlet1_any (P g cap : Nat) (ts : List Tk) (he : Ends ts) (htk : ∀ t ∈ ts, TkOk t) (nest base nb pb : Nat) (s : ByteArray) (p : Int) (acc : List Nd) (r : List Tk) (w : World) (h : SQ P g cap ts nest r w) (hj : LetJ base nb pb P 3 s p acc w) (ha : acc.length ≤ 8) (hP : P < base ∧ g < base) (hk : nb ≠ P ∧ nb ≠ g ∧ nb < base) (hp : pb ≠ P ∧ pb < base ∧ pb ≠ nb) :
    Calls Tryz.prog 127 #[.pointer (some ⟨pb, 0, none⟩), .pointer (some ⟨nb, 0, none⟩)] w (OneQ P g cap ts nest nb base (LetJ base nb pb P 3 s p) acc (paramR r) w) := by
  obtain ⟨i0, hi, hz0, hz1, hz2⟩ := info_parts (show (Tryz.prog.info? 24).map (fun i => (i.zero, i.size, i.bytes)) = some (some (.agg #[.int .i64 0, .string ⟨#[]⟩, .int .i64 0, .slice none 0 0, .int .i64 0]), 5, 64) by kernel_rfl)
  have HI0 := Lib.hid (show _ ∧ _ ∧ _ ∧ _ from ⟨hi, hz0, hz1, hz2⟩)
  clear hi hz0 hz1 hz2
  have HB := Lib.hid h.blocks
  have HJ := Lib.hid hj.2
  have HP0 := Lib.hid hj.1
  have hp0 := hj.1
  have hbase := Lib.hid hj.2.1
  have HT0 := Lib.hid (htk _ h.mem)
  have C1 := Lib.hid (qkind_any P g cap ts nest r 1 w h he)
  obtain ⟨x, hx⟩ : ∃ x, x = paramR r := ⟨_, rfl⟩
  rw [← hx]
  rw [show paramR r = goX (kindX 1 (.ok r)) (fun q => .ok (mkN 4 (hd r).text 0 [] (hd r).pos, q)) from kind_go (.ok r) 1 (fun t q => .ok (mkN 4 t.text 0 [] t.pos, q)) (hd r) (fun q h => by cases h; rfl)] at hx
  have HX := Lib.hid hx
  generalize hd r = T at C1 HX HT0
  generalize kindX 1 (.ok r) = σ at C1 HX
  clear h he htk hj hx
  go_enter Tryz.func127, Tryz.ntmps127
  go_wp2_with fail
  (with_reducible refine Calls.mono C1.out ?_)
  intro e w3 hq
  cases σ with
  | error q =>
    obtain ⟨k0, p0⟩ := q
    obtain ⟨rfl, hg⟩ := hq
    refine And.intro rfl ?_
    rw [HX.out]
    exact ⟨Gx.of hg, rfl⟩
  | ok q =>
  obtain ⟨rfl, hs, hg⟩ := hq
  have HX2 := Lib.hid (show x = .ok (mkN 4 T.text 0 [] T.pos, q) from HX.out)
  have G3 := Lib.hid hg
  have S3 := Lib.hid hs
  have J3 := Lib.hid (HJ.out.grown hg hP.1 hk.1)
  have HP3 := Lib.hid (show w3.cell? ⟨pb, 0, none⟩ = some (.pointer (some ⟨P, 0, none⟩)) from (World.cell?_of_block (hg.block pb (by have := hbase.out; omega) (fun e => hp.1 (Option.some.inj e)))).trans HP0.out)
  clear hs hg C1 hp0
  unfold tkV
  obtain ⟨W4, hW4⟩ : ∃ W, W = w3.alloc (.cells #[.int .i64 T.kind, .string ⟨T.text.toArray⟩, .int .i64 T.n, .int .i64 T.pos] 96) := ⟨_, rfl⟩
  have B4 := Lib.hid (show Below w3.heap.size w3 W4 from hW4 ▸ nbelow1 _ _)
  have Q4 := Lib.hid (show QT w3.heap.size T W4 from hW4 ▸ QT.make w3 T)
  have BD := Lib.hid (show Below W4.heap.size W4 W4.drew from bdrew (Below.refl _ _))
  have S4 := Lib.hid ((S3.out.below B4.out).below BD.out)
  have G4 := Lib.hid (show w.grownBy W4.drew (some P) from grown_trans G3.out (grown_of (B4.out.trans (BD.out.mono B4.out.size))))
  obtain ⟨hb4, L, ao, cp, j3, j4, j5, j6⟩ := J3.out.grown (grown_of (r := some P) (B4.out.trans (BD.out.mono B4.out.size))) hP.1 hk.1
  have HM := Lib.hid j3
  have HK4 := Lib.hid (show W4.heap[nb]? = some (.cells #[.int .i64 3, .string s, .int .i64 0, .slice ao L.length cp, .int .i64 p] 24 (0, 0)) from j4)
  have HO4 := Lib.hid (show W4.ownsRow base 24 5 (.slice ao L.length cp) L.length (entC L) from j5)
  have HL6 := Lib.hid (show ∀ e ∈ L, e.1.lies (fun c => base ≤ c ∧ c < W4.heap.size ∧ (Value.slice ao L.length cp).ownBlock ≠ some c) W4 e.2.1 e.2.2 from fun e he => lies_move (j6 e he) (fun c _ => rfl) fun c hc => hc)
  have hb4' := Lib.hid (show base ≤ W4.heap.size from hb4)
  have hLl : L.length ≤ 8 := by rw [← j3, List.length_map] at ha; exact ha
  have HOB := Lib.hid (show ∀ d, (Value.slice ao L.length cp).ownBlock = some d → base ≤ d ∧ d < W4.heap.size from fun d hd => HO4.out.lt d hd)
  have hnc : W4.cell? ⟨nb, 3, none⟩ = some (.slice ao L.length cp) := by simp [World.cell?, HK4.out]
  have HS4 := Lib.hid (show W4.drew.cell? ⟨nb, 3, none⟩ = some (.slice ao L.length cp) ∧ (W4.drew.cell? ⟨w3.heap.size, 0, none⟩ = some (.int .i64 T.kind) ∧ W4.drew.cell? ⟨w3.heap.size, 1, none⟩ = some (.string ⟨T.text.toArray⟩) ∧ W4.drew.cell? ⟨w3.heap.size, 2, none⟩ = some (.int .i64 T.n) ∧ W4.drew.cell? ⟨w3.heap.size, 3, none⟩ = some (.int .i64 T.pos)) from ⟨hnc, Q4.out.cells.1⟩)
  have HP4 := Lib.hid (show W4.cell? ⟨pb, 0, none⟩ = some (.pointer (some ⟨P, 0, none⟩)) from (B4.out.cell (p := ⟨pb, 0, none⟩) (by show pb < w3.heap.size; have := G3.out.size; have := hbase.out; omega)).trans HP3.out)
  clear j3 j4 j5 j6 hb4 hnc
  go_upto_region 1 with fail
  rw [← hW4]
  clear hW4
  refine wp_region_z (S := (fun cur => cur.cell? ⟨nb, 3, none⟩ = some (.slice ao L.length cp) ∧ (cur.cell? ⟨w3.heap.size, 0, none⟩ = some (.int .i64 T.kind) ∧ cur.cell? ⟨w3.heap.size, 1, none⟩ = some (.string ⟨T.text.toArray⟩) ∧ cur.cell? ⟨w3.heap.size, 2, none⟩ = some (.int .i64 T.n) ∧ cur.cell? ⟨w3.heap.size, 3, none⟩ = some (.int .i64 T.pos)))) (Z := [9, 10, 11, 12, 13]) (by kernel_rfl) ?_ (fun hHeld => ?_)
  · exact HS4.out
  refine AnyZ.take (i := 0) (v := ?_) (op_at rfl) (by kernel_rfl) (by kernel_rfl) (by kernel_rfl) (by kernel_rfl) (fun _ _ _ h => h) (Or.inl ⟨by rfl, ?_⟩) (by assumption) ?_
  rotate_left
  · (intro w hSw; (try dsimp only at hSw); go_simp; try with_reducible rfl)
  try simp only [Act.put, List.setIfInBounds_toArray, List.set_cons_zero, List.set_cons_succ]
  refine AnyZ.take (i := 1) (v := ?_) (op_at rfl) (by kernel_rfl) (by kernel_rfl) (by kernel_rfl) (by kernel_rfl) (fun _ _ _ h => h) (Or.inl ⟨by rfl, ?_⟩) (by assumption) ?_
  rotate_left
  · (intro w hSw; (try dsimp only at hSw); go_simp; try with_reducible rfl)
  try simp only [Act.put, List.setIfInBounds_toArray, List.set_cons_zero, List.set_cons_succ]
  refine AnyZ.take (i := 2) (v := ?_) (op_at rfl) (by kernel_rfl) (by kernel_rfl) (by kernel_rfl) (by kernel_rfl) (fun _ _ _ h => h) (Or.inl ⟨by rfl, ?_⟩) (by assumption) ?_
  rotate_left
  · (intro w hSw; (try dsimp only at hSw); go_simp; try with_reducible rfl)
  try simp only [Act.put, List.setIfInBounds_toArray, List.set_cons_zero, List.set_cons_succ]
  refine AnyZ.take (i := 3) (v := ?_) (op_at rfl) (by kernel_rfl) (by kernel_rfl) (by kernel_rfl) (by kernel_rfl) (fun _ _ _ h => h) (Or.inl ⟨by rfl, ?_⟩) (by assumption) ?_
  rotate_left
  · (intro w hSw; (try dsimp only at hSw); go_simp; try with_reducible rfl)
  try simp only [Act.put, List.setIfInBounds_toArray, List.set_cons_zero, List.set_cons_succ]
  refine AnyZ.take (i := 4) (v := ?_) (op_at rfl) (by kernel_rfl) (by kernel_rfl) (by kernel_rfl) (by kernel_rfl) (fun _ _ _ h => h) (Or.inl ⟨by rfl, ?_⟩) (by assumption) ?_
  rotate_left
  · (intro w hSw; (try dsimp only at hSw); go_simp; try with_reducible rfl)
  try simp only [Act.put, List.setIfInBounds_toArray, List.set_cons_zero, List.set_cons_succ]
  refine AnyZ.take (i := 5) (v := ?_) (op_at rfl) (by kernel_rfl) (by kernel_rfl) (by kernel_rfl) (by kernel_rfl) (fun _ _ _ h => h) (Or.inl ⟨by rfl, ?_⟩) (by assumption) ?_
  rotate_left
  · (intro w hSw; (try dsimp only at hSw); go_simp; try with_reducible rfl)
  try simp only [Act.put, List.setIfInBounds_toArray, List.set_cons_zero, List.set_cons_succ]
  refine AnyZ.take (i := 6) (v := ?_) (op_at rfl) (by kernel_rfl) (by kernel_rfl) (by kernel_rfl) (by kernel_rfl) (fun _ _ _ h => h) (Or.inl ⟨by rfl, ?_⟩) (by assumption) ?_
  rotate_left
  · (intro w hSw; (try dsimp only at hSw); go_simp; try with_reducible rfl)
  try simp only [Act.put, List.setIfInBounds_toArray, List.set_cons_zero, List.set_cons_succ]
  refine AnyZ.take (i := 7) (v := ?_) (op_at rfl) (by kernel_rfl) (by kernel_rfl) (by kernel_rfl) (by kernel_rfl) (fun _ _ _ h => h) (Or.inl ⟨by rfl, ?_⟩) (by assumption) ?_
  rotate_left
  · (intro w hSw; (try dsimp only at hSw); go_simp; try with_reducible rfl)
  try simp only [Act.put, List.setIfInBounds_toArray, List.set_cons_zero, List.set_cons_succ]
  refine AnyZ.next (i := 8) (by kernel_rfl) (op_at rfl) (fun K hK => ?_)
  go_simp
  obtain ⟨W5, hW5⟩ : ∃ W, W = (W4.alloc (.cells #[.int .i64 0, .string ⟨#[]⟩, .int .i64 0, .slice none 0 0, .int .i64 0] 24)).drew := ⟨_, rfl⟩
  have B5 := Lib.hid (show Below W4.heap.size W4 W5 from hW5 ▸ bdrew (nbelow1 _ _))
  have hz5 := Lib.hid (show W5.heap.size = W4.heap.size + 1 by rw [hW5]; show (W4.alloc _).heap.size = _; simp)
  have N5 := Lib.hid (show ∀ i u, zero5[i]? = some u → W5.cell? ((⟨W4.heap.size, 0, none⟩ : Addr).add i) = some u from hW5 ▸ cells5_new W4 _ _ _ _ _ _)
  have O5 := Lib.hid (show W5.ownsRow base 24 5 (.slice ao L.length cp) L.length (entC L) from own_below HO4.out B5.out)
  have HK5 := Lib.hid (show W5.heap[nb]? = some (.cells #[.int .i64 3, .string s, .int .i64 0, .slice ao L.length cp, .int .i64 p] 24 (0, 0)) from (B5.out.block nb (by have := hb4'.out; omega)).trans HK4.out)
  have hbase5 := Lib.hid (show base ≤ W5.heap.size by have := hb4'.out; have := hz5.out; omega)
  have HF := Lib.hid (show ∀ w6, W5.grownBy w6 (Value.slice ao L.length cp).ownBlock → w6.heap[nb]? = some (.cells #[.int .i64 3, .string s, .int .i64 0, .slice ao L.length cp, .int .i64 p] 24 (0, 0)) from fun w6 hg6 =>
    (hg6.block nb (by have := hb4'.out; have := hz5.out; omega) (fun e => by have := (HOB.out nb e.symm).1; omega)).trans HK5.out)
  have HS5 := Lib.hid (show W5.cell? ⟨nb, 3, none⟩ = some (.slice ao L.length cp) ∧ (W5.cell? ⟨w3.heap.size, 0, none⟩ = some (.int .i64 T.kind) ∧ W5.cell? ⟨w3.heap.size, 1, none⟩ = some (.string ⟨T.text.toArray⟩) ∧ W5.cell? ⟨w3.heap.size, 2, none⟩ = some (.int .i64 T.n) ∧ W5.cell? ⟨w3.heap.size, 3, none⟩ = some (.int .i64 T.pos)) from ⟨by simp [World.cell?, HK5.out], (Q4.out.below B5.out).cells.1⟩)
  rw [← hW5]
  clear hW5
  refine hK.out _ _ ?_ (fun hHeld => ?_)
  · exact HS5.out
  clear hK K
  try simp only [Act.put, List.setIfInBounds_toArray, List.set_cons_zero, List.set_cons_succ]
  refine AnyZ.nextZ (i := 9) (by kernel_rfl) (op_at rfl) (by kernel_rfl) (fun K hK => ?_)
  refine step_append_lies _ rfl _ _ 22 rfl base 24 i0 (.agg #[.int .i64 0, .string ⟨#[]⟩, .int .i64 0, .slice none 0 0, .int .i64 0]) 5 64 Tryz.underlying22 HI0.out.1 HI0.out.2.1 HI0.out.2.2.1 HI0.out.2.2.2 rfl (by decide) _ _ _ rfl O5.out ⟨W4.heap.size, 0, none⟩ 1 1 zero5 rfl rfl N5.out zero_one (by decide) (by unfold maxLen; omega) (by omega) hbase5.out _ rfl ?_
  intro gb cap' w6 hown' hgrow' hat hltg
  have HO6 := Lib.hid hown'
  have HG6 := Lib.hid hgrow'
  have HAT := Lib.hid hat
  have HN6 := Lib.hid (HF.out w6 hgrow')
  have hgb := Lib.hid (HO6.out.lt gb rfl)
  obtain ⟨⟨s0, s1, s2, s3, s4⟩, ⟨q0, q1, q2, q3, q4⟩⟩ := own_slots (ent_length L) HO6.out
  have hgl := hgb.out.2
  have hnl6 : nb < w6.heap.size := (Array.getElem?_eq_some_iff.1 HN6.out).1
  have hn3 : w6.cell? ⟨nb, 3, none⟩ = some (.slice ao L.length cp) := by simp [World.cell?, HN6.out]
  have hf3 : w6.frozen? ⟨nb, 3, none⟩ = false := by simp [World.frozen?, HN6.out]
  have hgn : ¬ gb = nb := by have := hgb.out; omega
  have hng : ¬ nb = gb := fun e => hgn e.symm
  clear hown' hgrow' hat
  refine hK.out _ _ ?_
  clear hK K
  try simp only [Act.put, List.setIfInBounds_toArray, List.set_cons_zero, List.set_cons_succ]
  refine AnyZ.pure (i := 10) (v := ?_) (op_at rfl) (by kernel_rfl) (by kernel_rfl) (by kernel_rfl) (by kernel_rfl) (fun _ _ _ h => h) (Or.inl ⟨by rfl, ?_⟩) ?_
  rotate_left
  · (intro w hSw; go_simp; rw [if_pos (show (L.length : Int) < (L.length : Int) + 1 by omega)])
  try simp only [Act.put, List.setIfInBounds_toArray, List.set_cons_zero, List.set_cons_succ]
  refine AnyZ.pure (i := 12) (v := ?_) (op_at rfl) (by kernel_rfl) (by kernel_rfl) (by kernel_rfl) (by kernel_rfl) (fun _ _ _ h => h) (Or.inl ⟨by rfl, ?_⟩) ?_
  rotate_left
  · (intro w hSw; go_simp; try with_reducible rfl)
  try simp only [Act.put, List.setIfInBounds_toArray, List.set_cons_zero, List.set_cons_succ]
  refine AnyZ.twoZ (i := 11) (j := 13) (by kernel_rfl) (op_at rfl) (op_at rfl) (by kernel_rfl) (by kernel_rfl) (fun K hK => ?_) (fun K hK => ?_)
  · go_simp
    refine hK.out _ _ ?_
    clear hK K
    try simp only [Act.put, List.setIfInBounds_toArray, List.set_cons_zero, List.set_cons_succ]
    refine AnyZ.nextZ (i := 13) (by kernel_rfl) (op_at rfl) (by kernel_rfl) (fun K hK => ?_)
    go_simp
    refine hK.out _ _ ?_
    clear hK K
    try simp only [Act.put, List.setIfInBounds_toArray, List.set_cons_zero, List.set_cons_succ]
    refine AnyZ.done (by kernel_rfl) ?_ _
    refine bodyPost_end (results_none rfl _ _ _) rfl ?_
    rw [HX2.out]
    exact one_fin (e := (mkN 4 T.text 0 [] T.pos, none, 0)) (w6 := w6) (k := 3) hP hk hp (grown_trans G3.out (grown_of B4.out)) (S3.out.below B4.out) HP4.out hb4'.out HM.out HOB.out HL6.out (param_lies HT0.out (fun _ => False) _) (fun c hc => hc.elim) B5.out HG6.out HAT.out (by have := hz5.out; omega) hgb.out (final_a HN6.out HO6.out (ent_length L) hgn (mkN 4 T.text 0 [] T.pos, none, 0))
  · go_simp
    refine hK.out _ _ ?_
    clear hK K
    try simp only [Act.put, List.setIfInBounds_toArray, List.set_cons_zero, List.set_cons_succ]
    refine AnyZ.nextZ (i := 11) (by kernel_rfl) (op_at rfl) (by kernel_rfl) (fun K hK => ?_)
    go_simp
    refine hK.out _ _ ?_
    clear hK K
    try simp only [Act.put, List.setIfInBounds_toArray, List.set_cons_zero, List.set_cons_succ]
    refine AnyZ.done (by kernel_rfl) ?_ _
    refine bodyPost_end (results_none rfl _ _ _) rfl ?_
    rw [HX2.out]
    exact one_fin (e := (mkN 4 T.text 0 [] T.pos, none, 0)) (w6 := w6) (k := 3) hP hk hp (grown_trans G3.out (grown_of B4.out)) (S3.out.below B4.out) HP4.out hb4'.out HM.out HOB.out HL6.out (param_lies HT0.out (fun _ => False) _) (fun c hc => hc.elim) B5.out HG6.out HAT.out (by have := hz5.out; omega) hgb.out (final_b HN6.out HO6.out (ent_length L) hgn (mkN 4 T.text 0 [] T.pos, none, 0))
end Go.Proofs.YtcndknkdhlmdnaaGreatDoor
