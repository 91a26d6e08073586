/-
  Texts that the statements' proofs rest on, one behind another: ParP, ParQ, ParR, ParS.
-/
import Derived.Test.YtcndknkdhlmdnaaGreatDoorM28
import Derived.Deep.AppendLies

/-
  usanceref07's parser: a call's arguments: what lies in memory, and the plain law of them.
-/
namespace Go.Proofs.YtcndknkdhlmdnaaGreatDoor
open Go.RowKit
set_option maxRecDepth 100000

/-- a node, where its kids lie, and for how many there is room -/
abbrev Ent := Nd × Option Addr × Nat
def ndC (e : Ent) : List Value := [.int .i64 e.1.kind, .string e.1.text, .int .i64 e.1.n, .slice e.2.1 e.1.kids.length e.2.2, .int .i64 e.1.place]
def entC (L : List Ent) : List Value := L.flatMap ndC
theorem ent_snoc (L : List Ent) (e : Ent) : entC (L ++ [e]) = entC L ++ ndC e := by unfold entC; simp
theorem ent_get : ∀ (L : List Ent) (j : Nat) (hj : j < L.length) (i : Nat) (_ : i < 5), (entC L)[j * 5 + i]? = (ndC L[j])[i]?
  | e :: L, 0, _, i, hi => by
    unfold entC
    rw [List.flatMap_cons, Nat.zero_mul, Nat.zero_add, List.getElem?_append_left (by exact hi)]
    rfl
  | e :: L, j + 1, hj, i, hi => by
    have := ent_get L j (by simpa using hj) i hi
    unfold entC at this ⊢
    rw [List.flatMap_cons, List.getElem?_append_right (by show 5 ≤ _; omega)]
    rw [show (j + 1) * 5 + i - (ndC e).length = j * 5 + i by show (j + 1) * 5 + i - 5 = _; omega]
    exact this
theorem nd_one (e : Ent) : ∀ u ∈ ndC e, u.oneCell' = true := by
  intro u hu
  unfold ndC at hu
  simp only [List.mem_cons, List.not_mem_nil, or_false] at hu
  rcases hu with rfl | rfl | rfl | rfl | rfl <;> rfl
theorem cells5_new (W : World) (T : TypeId) (v0 v1 v2 v3 v4 : Value) : ∀ j u, [v0, v1, v2, v3, v4][j]? = some u → (W.alloc (.cells #[v0, v1, v2, v3, v4] T)).cell? ((⟨W.heap.size, 0, none⟩ : Addr).add j) = some u := by
  intro j u h
  rw [Go.WideShapes.add_plain, Nat.zero_add]
  have h' : (W.alloc (.cells #[v0, v1, v2, v3, v4] T)).heap[W.heap.size]? = some (.cells #[v0, v1, v2, v3, v4] T (0, 0)) := by show (W.heap.push _)[W.heap.size]? = _; simp
  rw [World.cell?]
  simp only [h']
  match j, h with
  | 0, h => exact h
  | 1, h => exact h
  | 2, h => exact h
  | 3, h => exact h
  | 4, h => exact h
/-- nodes in a row are kids in a row -/
theorem lie_row {av : Nat → Prop} {base T : Nat} {W : World} {g cap : Nat} {L : List Ent} (h : W.ownsRow base T 5 (.slice (some ⟨g, 0, none⟩) L.length cap) L.length (entC L)) (hg : av g) (hl : ∀ e ∈ L, e.1.lies av W e.2.1 e.2.2) : Nd.lie av W (L.map (·.1)) (some ⟨g, 0, none⟩) 0 := by
  have hc := h.cells (g := g) rfl
  refine Nd.lie.of _ 0 fun j hj => ?_
  rw [List.length_map] at hj
  have q : ∀ i, i < 5 → ∀ u, (ndC L[j])[i]? = some u → W.cell? ⟨g, 0 + (0 + j) * 5 + i, none⟩ = some u := fun i hi u hu => by
    have := hc (j * 5 + i) u (by rw [ent_get L j hj i hi]; exact hu)
    rw [Go.WideShapes.add_plain] at this
    rw [Nat.zero_add j, Nat.add_assoc]
    exact this
  refine ⟨g, 0, L[j].2.1, L[j].2.2, ?_⟩
  rw [List.getElem_map]
  exact ⟨rfl, hg, q 0 (by decide) _ rfl, q 1 (by decide) _ rfl, q 2 (by decide) _ rfl, q 3 (by decide) _ rfl, q 4 (by decide) _ rfl, hl _ (List.getElem_mem hj)⟩
theorem depth_all : ∀ (ks : List Nd) (n : Nat), (∀ k ∈ ks, depthN k ≤ n) → depthKs ks ≤ n
  | [], n, _ => by rw [depthKs]; exact Nat.zero_le _
  | k :: ks, n, h => by
    rw [depthKs]
    have h1 := h k (List.mem_cons_self ..)
    have h2 := depth_all ks n fun k hk => h k (List.mem_cons_of_mem _ hk)
    omega
theorem grown_row {w A B : World} {P : Nat} {r : Option Nat} (h : w.grownBy A (some P)) (k : A.grownBy B r) (hr : ∀ c, r = some c → w.heap.size ≤ c) : w.grownBy B (some P) :=
  ⟨k.os.trans h.os, k.tape.trans h.tape, k.output.trans h.output, Nat.le_trans h.size k.size, fun i hi hne => (k.block i (Nat.lt_of_lt_of_le hi h.size) (fun e => by have := hr i e.symm; omega)).trans (h.block i hi hne)⟩
theorem SP.row {P g cap : Nat} {ts : List Tk} {n : Nat} {σ : Sx} {A B : World} {r : Option Nat} (h : SP P g cap ts n σ A) (k : A.grownBy B r) (hr : ∀ c, r = some c → c ≠ P ∧ c ≠ g) : SP P g cap ts n σ B :=
  h.keeps (fun b hb => by
    have hl := h.blocks
    rcases hb with rfl | rfl
    · exact k.block _ hl.1 (fun e => (hr _ e.symm).1 rfl)
    · exact k.block _ hl.2 (fun e => (hr _ e.symm).2 rfl)) k.size
/-- an append leaves a world that has grown, the row alone turned -/
theorem own_block {A : World} {B T k : Nat} {v : Value} {n : Nat} {xs : List Value} (h : A.ownsRow B T k v n xs) : ∀ c, v.ownBlock = some c → B ≤ c ∧ c < A.heap.size := h.lt

/-- what args hands back -/
def ArgP (P g cap : Nat) (ts : List Tk) (nest : Nat) (X : Rd) (w : World) (e : Ending) (w' : World) : Prop :=
  ∃ (ks : List Nd) (v : Option Addr) (cp : Nat), e = .returned (.slice v ks.length cp) ∧ SP P g cap ts nest (outX X) w' ∧ w.grownBy w' (some P) ∧
    ∀ t' r, X = .ok (t', r) → t'.kids = ks ∧ (ks.length ≤ 8 ∧ ks.length ≤ cp ∧ cp ≤ maxLen) ∧ depthKs ks ≤ 100 ∧ Nd.lie (Fr w.heap.size w'.heap.size) w' ks v 0
/-- where the reading of arguments stands -/
def ArgI (P g cap : Nat) (ts : List Tk) (nest : Nat) (l : List Tk) (X : Rd) (w wr : World) (ao : Option Addr) (cp : Nat) (L : List Ent) (σ : Sx) : Prop :=
  L.length ≤ 8 ∧ wr.ownsRow w.heap.size 24 5 (.slice ao L.length cp) L.length (entC L) ∧ SP P g cap ts nest σ wr ∧ w.grownBy wr (some P) ∧ X = goX σ (rd (.args (L.map (·.1))) nest) ∧
    ∀ r, σ = .ok r → (∀ e ∈ L, e.1.lies (fun c => w.heap.size ≤ c ∧ c < wr.heap.size ∧ (Value.slice ao L.length cp).ownBlock ≠ some c) wr e.2.1 e.2.2 ∧ depthN e.1 ≤ 100) ∧ r.length < l.length
theorem args_eq (acc : List Nd) (nest : Nat) (r : List Tk) : rd (.args acc) nest r = if acc.length = 8 then .error (76, (hd r).pos) else (rd .expr nest r).then fun t r => if isT tComma r = true then rd (.args (acc ++ [t])) nest (stepL r) else wantT tShut r fun r => .ok (mkN 0 [] 0 (acc ++ [t]) 0, r) := rd_eq (.args acc) nest r
theorem args_more {x : Rd} {t : Nd} {acc : List Nd} {nest : Nat} (hx : Is x t) (h : ∀ r, outX x = .ok r → true = isT tComma r) : (x.then fun t r => if isT tComma r = true then rd (.args (acc ++ [t])) nest (stepL r) else wantT tShut r fun r => .ok (mkN 0 [] 0 (acc ++ [t]) 0, r)) = goX (stepX (outX x)) (rd (.args (acc ++ [t])) nest) := by
  rw [then_go hx]
  cases x with
  | error e => rfl
  | ok p => obtain ⟨t', r⟩ := p; show (if isT tComma r = true then _ else _) = _; rw [if_pos (h r rfl).symm]; rfl
theorem args_end {x : Rd} {t : Nd} {acc : List Nd} {nest : Nat} (hx : Is x t) (h : ∀ r, outX x = .ok r → false = isT tComma r) : (x.then fun t r => if isT tComma r = true then rd (.args (acc ++ [t])) nest (stepL r) else wantT tShut r fun r => .ok (mkN 0 [] 0 (acc ++ [t]) 0, r)) = goX (wantX tShut (outX x)) fun r => .ok (mkN 0 [] 0 (acc ++ [t]) 0, r) := by
  rw [then_go hx, ← want_go]
  cases x with
  | error e => rfl
  | ok p => obtain ⟨t', r⟩ := p; show (if isT tComma r = true then _ else _) = _; rw [if_neg (by rw [← h r rfl]; decide)]; rfl

end Go.Proofs.YtcndknkdhlmdnaaGreatDoor

/-
  usanceref07's parser: a call's arguments.
-/
namespace Go.Proofs.YtcndknkdhlmdnaaGreatDoor
open Go.RowKit
set_option maxRecDepth 100000

set_option maxHeartbeats 4000000 in
theorem pargs_any (P g cap : Nat) (ts : List Tk) (he : Ends ts) (l : List Tk) (hE : ∀ r, r.length < l.length → CE P g cap ts r) (nest : Nat) (w : World) (hn : nest ≤ 300) (h : SP P g cap ts nest (.ok l) w) (ho : isT tOpen l = true) :
    Calls Tryz.prog 225 #[.pointer (some ⟨P, 0, none⟩), .int .i64 8] w (ArgP P g cap ts nest (rd (.args []) nest (stepL l)) w) := by
  obtain ⟨i0, hi, hz0, hz1, hz2⟩ := info_parts (show (Tryz.prog.info? 24).map (fun i => (i.zero, i.size, i.bytes)) = some (some (.agg #[.int .i64 0, .string ⟨#[]⟩, .int .i64 0, .slice none 0 0, .int .i64 0]), 5, 64) by kernel_rfl)
  have HI0 := Lib.hid (show _ ∧ _ ∧ _ ∧ _ from ⟨hi, hz0, hz1, hz2⟩)
  clear hi hz0 hz1 hz2
  have hlen := isT_len ho
  have HEx := Lib.hid hE
  have HE := Lib.hid he
  have hb0 := Lib.hid h.blocks
  obtain ⟨X, hX⟩ : ∃ X, X = rd (.args []) nest (stepL l) := ⟨_, rfl⟩
  rw [← hX]
  have HX := Lib.hid hX
  have HWt := Lib.hid (show wantX tOpen (.ok l) = .ok (stepL l) from if_pos ho)
  have C1 := Lib.hid (pwant_any P g cap ts nest (.ok l) ⟨#[40]⟩ w hn h he)
  have HLen := Lib.hid hlen
  clear h hE he hX ho hlen
  go_enter Tryz.func225, Tryz.ntmps225
  go_wp2_with fail
  (with_reducible refine Calls.mono C1.out ?_)
  rintro e w1 ⟨rfl, hs, hg⟩
  have I1 := Lib.hid (show ArgI P g cap ts nest l X w w1 none 0 [] (.ok (stepL l)) from ⟨Nat.zero_le _, World.ownsRow_nil _ _ _ _, by rw [← HWt.out]; exact hs, hg, HX.out, fun r hr => by
    cases hr; exact ⟨fun e he => (by cases he), (by have := HLen.out; omega)⟩⟩)
  clear hs hg C1
  go_upto_region 3 with fail
  go_loopw [5, 6] (fun v _ wr => ∃ (ao : Option Addr) (cp : Nat) (L : List Ent) (σ : Sx), v = .slice ao L.length cp ∧ Hid (ArgI P g cap ts nest l X w wr ao cp L σ)) (fun _ _ wr => farW P ts wr)
  case atStart => exact ⟨none, 0, [], _, rfl, I1.out⟩
  case round =>
    obtain ⟨ao, cp, L, σ, rfl, HI⟩ := hrel
    clear I1 HWt HX HLen
    have hL8 : L.length ≤ 8 := HI.out.1
    have hs := HI.out.2.2.1
    have hpl := hs.blocks.1
    have HFar := Lib.hid (show farW P ts wr = farX σ from hs.far)
    cases σ with
    | error q =>
      obtain ⟨k, p⟩ := q
      obtain ⟨hk0, i, n, hp, -, -⟩ := hs.error
      obtain ⟨⟨p0, p1, p2, p3, p4⟩, -⟩ := hp.cells
      have ek : (k == 0) = false := beq_eq_false_iff_ne.2 hk0
      have C2 := Lib.hid (pwant_any P g cap ts nest (.error (k, p)) ⟨#[41]⟩ wr hn hs HE.out)
      clear hs hk0 hp
      go_wp2_with fail
      (with_reducible refine Calls.mono C2.out ?_)
      rintro e w2 ⟨rfl, hs, hg⟩
      have HS := Lib.hid hs
      have HG := Lib.hid hg
      clear hs hg C2
      go_wp2_with fail
      go_ret
      have hX : X = .error (k, p) := HI.out.2.2.2.2.1
      rw [hX]
      exact ⟨L.map (·.1), ao, cp, by rw [List.length_map]; rfl, HS.out, grown_trans HI.out.2.2.2.1 HG.out, fun _ _ h => by cases h⟩
    | ok r =>
      obtain ⟨i, -, hp⟩ := hs.ok
      obtain ⟨⟨p0, p1, p2, p3, p4⟩, -⟩ := hp.cells
      have HS := Lib.hid hs
      have HXr := Lib.hid (show X = rd (.args (L.map (·.1))) nest r from HI.out.2.2.2.2.1)
      by_cases h8 : L.length = 8
      · have hl8 : ((L.length : Int) == 8) = true := by rw [h8]; rfl
        have HX8 := Lib.hid (show X = .error (76, (hd r).pos) by rw [HXr.out, args_eq, if_pos (by rw [List.length_map]; exact h8)])
        have C2 := Lib.hid (plook_s P g cap ts nest (.ok r) wr hs)
        clear hs hp h8
        go_wp2_with fail
        (with_reducible refine Calls.mono C2.out ?_)
        rintro e w2 ⟨T, rfl, hb, hT⟩
        have HT := Lib.hid (hT r rfl)
        have HS2 := Lib.hid (HS.out.below hb)
        have HG2 := Lib.hid (pgrown_below HI.out.2.2.2.1 (hb.mono HI.out.2.2.2.1.size))
        obtain ⟨i2, -, hp2⟩ := HS2.out.ok
        have C3 := Lib.hid (pfail_any P g cap ts i2 nest w2 76 T.pos hp2)
        clear hb hT hp2 p0 p1 p2 p3 p4 hpl
        unfold tkV
        have hfd := tk_field T.kind T.n T.pos ⟨T.text.toArray⟩
        go_wp2_with fail
        (with_reducible refine Calls.mono C3.out ?_)
        rintro e w3 ⟨rfl, hp3, hg⟩
        have HS3 := Lib.hid (show SP P g cap ts nest (.error (76, T.pos)) w3 from SP.of_error hp3 (by decide) (Int.le_refl _) (by omega))
        have HG3 := Lib.hid (grown_trans HG2.out hg)
        have C4 := Lib.hid (pwant_any P g cap ts nest (.error (76, T.pos)) ⟨#[41]⟩ w3 hn HS3.out HE.out)
        clear hp3 hg hfd
        go_wp2_with fail
        (with_reducible refine Calls.mono C4.out ?_)
        rintro e w4 ⟨rfl, hs, hg⟩
        have HS4 := Lib.hid hs
        have HG4 := Lib.hid (grown_trans HG3.out hg)
        clear hs hg
        go_wp2_with fail
        go_ret
        rw [HX8.out, ← HT.out]
        exact ⟨L.map (·.1), ao, cp, by rw [List.length_map]; rfl, HS4.out, HG4.out, fun _ _ h => by cases h⟩
      · have hl8 : ((L.length : Int) == 8) = false := beq_eq_false_iff_ne.2 (by omega)
        have hL7 : L.length ≤ 7 := by omega
        have HXn := Lib.hid (show X = (rd .expr nest r).then fun t r => if isT tComma r = true then rd (.args (L.map (·.1) ++ [t])) nest (stepL r) else wantT tShut r fun r => .ok (mkN 0 [] 0 (L.map (·.1) ++ [t]) 0, r) by rw [HXr.out, args_eq, if_neg (by rw [List.length_map]; exact h8)])
        have C2 := Lib.hid (HEx.out r (HI.out.2.2.2.2.2 r rfl).2 nest wr hn hs)
        have HRL := Lib.hid (fun t q (h : rd .expr nest r = .ok (t, q)) => rd_len .expr nest r h)
        have HRl := Lib.hid (HI.out.2.2.2.2.2 r rfl).2
        generalize rd .expr nest r = x at HXn C2 HRL
        clear hs hp h8 hL8
        go_wp2_with fail
        (with_reducible refine Calls.mono C2.out ?_)
        rintro e w4 ⟨t, a, c, rfl, hs, hg, hk⟩
        have HK := Lib.hid hk
        have HS4 := Lib.hid hs
        have HG4 := Lib.hid (grown_trans HI.out.2.2.2.1 hg)
        have HGr := Lib.hid hg
        have HO4 := Lib.hid (show w4.ownsRow w.heap.size 24 5 (.slice ao L.length cp) L.length (entC L) from HI.out.2.1.kept hg (by
          cases hv : (Value.slice ao L.length cp).ownBlock with
          | none => exact .inl rfl
          | some c => exact .inr (fun e => by have := (HI.out.2.1.lt c hv).1; cases e; have := hb0.out.1; omega)))
        have hwl := Lib.hid (show w.heap.size ≤ w4.heap.size from HG4.out.size)
        have hbase : w.heap.size ≤ w4.heap.size := hwl.out
        clear hs hg hk C2 p0 p1 p2 p3 p4 hpl
        unfold Nd.val
        go_wp2_with (at_builtin; refine wpList_append_lies _ rfl _ _ 22 rfl w.heap.size 24 i0 (.agg #[.int .i64 0, .string ⟨#[]⟩, .int .i64 0, .slice none 0 0, .int .i64 0]) 5 64 Tryz.underlying22 HI0.out.1 HI0.out.2.1 HI0.out.2.2.1 HI0.out.2.2.2 rfl (by decide) _ _ _ rfl (HO4.out.alloc _) ⟨w4.heap.size, 0, none⟩ 1 1 (ndC (t, a, c)) rfl rfl (cells5_new _ _ _ _ _ _ _) (nd_one _) (by decide) (by unfold maxLen; omega) (by omega) (by simp; omega) _ rfl ?_; intro gb cap' w5 hown' hgrow' hat hltg)
        have B4 := Lib.hid (nbelow1 w4 (.cells #[.int .i64 t.kind, .string t.text, .int .i64 t.n, .slice a t.kids.length c, .int .i64 t.place] 24))
        have HOl := Lib.hid (show ∀ d, (Value.slice ao L.length cp).ownBlock = some d → w.heap.size ≤ d ∧ d < wr.heap.size from fun d hd => HI.out.2.1.lt d hd)
        have HG5 := Lib.hid (grown_row (grown_trans HG4.out (grown_of B4.out)) hgrow' (fun d hd => (HOl.out d hd).1))
        have HS5 := Lib.hid (SP.row (HS4.out.below B4.out) hgrow' (fun d hd => by have := (HOl.out d hd).1; have := hb0.out; omega))
        have HR5 := Lib.hid (show w5.ownsRow w.heap.size 24 5 (.slice (some ⟨gb, 0, none⟩) (L ++ [(t, a, c)]).length cap') (L ++ [(t, a, c)]).length (entC (L ++ [(t, a, c)])) from by
          rw [ent_snoc, List.length_append]; exact hown')
        have HL5 := Lib.hid (show ∀ r', outX x = .ok r' → (∀ e ∈ L ++ [(t, a, c)], e.1.lies (fun d => w.heap.size ≤ d ∧ d < w5.heap.size ∧ d ≠ gb) w5 e.2.1 e.2.2 ∧ depthN e.1 ≤ 100) ∧ r'.length ≤ r.length from fun r' hr' => by
          obtain ⟨t2, ht2⟩ := out_inv hr'
          obtain ⟨rfl, hl, hd⟩ := HK.out t2 r' ht2
          have hsz : wr.heap.size ≤ w4.heap.size := HGr.out.size
          have hsz5 : w4.heap.size + 1 ≤ w5.heap.size := by have := hgrow'.size; simpa using this
          have hal : (w4.alloc (.cells #[.int .i64 t2.kind, .string t2.text, .int .i64 t2.n, .slice a t2.kids.length c, .int .i64 t2.place] 24)).heap.size = w4.heap.size + 1 := by simp
          have hgb : (Value.slice ao L.length cp).ownBlock = some gb ∨ gb = w4.heap.size + 1 := hat.imp (fun h => h) (fun e => e.trans (by simp))
          have hP : P < wr.heap.size := HS.out.blocks.1
          have hPw := hb0.out.1
          refine ⟨fun e he => ?_, HRL.out t2 r' ht2⟩
          rcases List.mem_append.1 he with he | he
          · obtain ⟨h1, h2⟩ := (HI.out.2.2.2.2.2 r rfl).1 e he
            refine ⟨lies_move h1 (fun d hd => ?_) fun d hd => ⟨hd.1, by have := hd.2.1; omega, fun e => ?_⟩, h2⟩
            · have hd1 := hd.1
              have hd2 := hd.2.1
              refine (hgrow'.block d (by rw [hal]; omega) (fun e => hd.2.2 e.symm)).trans ((B4.out.block d (by omega)).trans (HGr.out.block d hd2 (fun e => by cases e; omega)))
            · subst e
              rcases hgb with e | e
              · exact hd.2.2 e
              · have := hd.2.1; omega
          · obtain rfl := List.mem_singleton.1 he
            refine ⟨lies_move hl (fun d hd => ?_) fun d hd => ⟨Nat.le_trans HI.out.2.2.2.1.size hd.1, by have := hd.2; omega, fun e => ?_⟩, hd⟩
            · have hd1 := hd.1
              have hd2 := hd.2
              refine (hgrow'.block d (by rw [hal]; omega) (fun e => by have := (HOl.out d e.symm).2; omega)).trans (B4.out.block d hd2)
            · subst e
              rcases hgb with e | e
              · have := (HOl.out _ e).2; have := hd.1; omega
              · have := hd.2; omega)
        have HIs := Lib.hid (show Is x t from fun t' r h => (HK.out t' r h).1)
        have hgb5 := Lib.hid (show w.heap.size ≤ gb ∧ gb < w5.heap.size from HR5.out.lt gb rfl)
        have D1 := Lib.hid (pis_s P g cap ts nest (outX x) ⟨#[44]⟩ w5 HS5.out)
        clear hown' hgrow' hat hltg hbase
        go_wp2_with fail
        (with_reducible refine Calls.mono D1.out ?_)
        rintro e w6 ⟨b1, rfl, hb, hb1⟩
        have HS6 := Lib.hid (HS5.out.below hb)
        have HB6 := Lib.hid hb
        have HT6 := Lib.hid hb1
        have HG6 := Lib.hid (pgrown_below HG5.out (hb.mono HG5.out.size))
        clear hb hb1 D1
        cases b1
        · have C5 := Lib.hid (pwant_any P g cap ts nest (outX x) ⟨#[41]⟩ w6 hn HS6.out HE.out)
          go_wp2_with fail
          (with_reducible refine Calls.mono C5.out ?_)
          rintro e w7 ⟨rfl, hs, hg⟩
          have HS7 := Lib.hid (show SP P g cap ts nest (wantX tShut (outX x)) w7 from hs)
          have K57 := Lib.hid (show w5.grownBy w7 (some P) from grown_trans (grown_of HB6.out) hg)
          have HG7 := Lib.hid (grown_trans HG6.out hg)
          clear hs hg C5
          go_wp2_with fail
          go_ret
          have hX : X = goX (wantX tShut (outX x)) fun r => .ok (mkN 0 [] 0 (L.map (·.1) ++ [t]) 0, r) := by
            rw [HXn.out, args_end HIs.out HT6.out]
          have hP5 := HS5.out.blocks.1
          have hPw := hb0.out.1
          refine ⟨(L ++ [(t, a, c)]).map (·.1), some ⟨gb, 0, none⟩, cap', by rw [List.length_map, List.length_append]; rfl, by rw [hX, out_some]; exact HS7.out, HG7.out, fun t' r' hx => ?_⟩
          rw [hX] at hx
          obtain ⟨r1, e1, e2⟩ := go_inv hx
          cases e2
          obtain ⟨r2, e3, -, -⟩ := want_inv e1
          obtain ⟨hal, -⟩ := HL5.out r2 e3
          have hrow : w7.ownsRow w.heap.size 24 5 (.slice (some ⟨gb, 0, none⟩) (L ++ [(t, a, c)]).length cap') (L ++ [(t, a, c)]).length (entC (L ++ [(t, a, c)])) :=
            HR5.out.kept K57.out (.inr (fun e => by have := hgb5.out.1; have e' : gb = P := Option.some.inj e; omega))
          have hcap := hrow.2
          have hlen : (L ++ [(t, a, c)]).length = L.length + 1 := by rw [List.length_append]; rfl
          refine ⟨by rw [List.map_append]; rfl, ⟨?_, ?_, ?_⟩, depth_all _ _ fun k hk => ?_, lie_row hrow (show Fr w.heap.size w7.heap.size gb from ⟨hgb5.out.1, Nat.lt_of_lt_of_le hgb5.out.2 K57.out.size⟩) fun e he => lies_move (hal e he).1 ((KeepsV.refl _ _).grown K57.out fun d hd => ⟨hd.2.1, fun e => by subst e; have := hd.1; omega⟩) fun d hd => ⟨hd.1, Nat.lt_of_lt_of_le hd.2.1 K57.out.size⟩⟩
          · rw [List.length_map, hlen]; omega
          · rw [List.length_map]
            rcases hcap with ⟨h, -⟩ | ⟨g', cap2, cur, h, -, -, h1, -⟩
            · cases h
            · cases h; exact h1
          · rcases hcap with ⟨h, -⟩ | ⟨g', cap2, cur, h, -, -, -, h1, -⟩
            · cases h
            · cases h; exact h1
          · obtain ⟨e, he, rfl⟩ := List.mem_map.1 hk
            exact (hal e he).2
        · have C5 := Lib.hid (pstep_s P g cap ts nest (outX x) w6 HS6.out HE.out)
          go_wp2_with fail
          (with_reducible refine Calls.mono C5.out ?_)
          rintro e w7 ⟨T, rfl, hs, hg, -⟩
          have HS7 := Lib.hid hs
          have K57 := Lib.hid (show w5.grownBy w7 (some P) from grown_trans (grown_of HB6.out) hg)
          have HG7 := Lib.hid (grown_trans HG6.out hg)
          clear hs hg C5
          unfold tkV
          go_wp2_with fail
          go_roundw
          case rel =>
            have hlen : (L ++ [(t, a, c)]).length = L.length + 1 := by rw [List.length_append]; rfl
            have hPw := hb0.out.1
            refine ⟨some ⟨gb, 0, none⟩, cap', L ++ [(t, a, c)], stepX (outX x), by rw [hlen], ?_, HR5.out.kept K57.out (.inr (fun e => by have := hgb5.out.1; have e' : gb = P := Option.some.inj e; omega)), HS7.out, HG7.out, ?_, fun r' hr' => ?_⟩
            · rw [hlen]; omega
            · rw [HXn.out, args_more HIs.out HT6.out, List.map_append]; rfl
            · cases hx : outX x with
              | error e => rw [hx] at hr'; cases hr'
              | ok r1 =>
                rw [hx] at hr'
                obtain ⟨hal, h1⟩ := HL5.out r1 hx
                replace hr' : Except.ok (stepL r1) = (.ok r' : Sx) := hr'
                cases hr'
                refine ⟨fun e he => ⟨lies_move (hal e he).1 ((KeepsV.refl _ _).grown K57.out fun d hd => ⟨hd.2.1, fun e => by subst e; have := hd.1; omega⟩) fun d hd => ⟨hd.1, Nat.lt_of_lt_of_le hd.2.1 K57.out.size, fun e => hd.2.2 (Option.some.inj e).symm⟩, (hal e he).2⟩, ?_⟩
                have := stepL_le r1
                have := HRl.out
                omega
          case measure =>
            rw [HFar.out]
            refine Nat.lt_of_le_of_lt (Nat.le_of_eq HS7.out.far) ?_
            cases hx : outX x with
            | error e => exact Nat.succ_pos _
            | ok r1 =>
              obtain ⟨hal, h1⟩ := HL5.out r1 hx
              have := isT_len (HT6.out r1 hx).symm
              show (stepL r1).length + 1 < r.length + 1
              omega

end Go.Proofs.YtcndknkdhlmdnaaGreatDoor

/-
  usanceref07's parser: which atom stands next (no program in sight).
-/
namespace Go.Proofs.YtcndknkdhlmdnaaGreatDoor
open Go.RowKit
set_option maxRecDepth 100000

/-- what the scanner makes true of a token -/
structure TkZ (t : Tk) : Prop where
  zero : t.kind = 4 ∨ t.kind = 2 → t.n = 0
  sign : t.kind = 8 → t.text ≠ tTrue ∧ t.text ≠ tFalse ∧ t.text ≠ tFeed ∧ t.text ≠ tPick
  word : t.kind = 2 → t.text ≠ tOpen
/-- which atom stands next -/
inductive AtomC (T : Tk) : Prop
  | num (h : T.kind = 6)
  | day (h : T.kind = 5)
  | cur (h : T.kind = 4)
  | yes (h : T.kind = 2) (h' : T.text = tTrue)
  | no (h : T.kind = 2) (h' : T.text = tFalse)
  | feed (h : T.kind = 2) (h' : T.text = tFeed)
  | pick (h : T.kind = 2) (h' : T.text = tPick)
  | name (h : T.kind = 1 ∨ T.kind = 3)
  | paren (h : T.kind = 8) (h' : T.text = tOpen)
  | none (h1 : T.kind ≠ 6 ∧ T.kind ≠ 5 ∧ T.kind ≠ 4 ∧ T.kind ≠ 1 ∧ T.kind ≠ 3) (h2 : T.kind = 2 → T.text ≠ tTrue ∧ T.text ≠ tFalse ∧ T.text ≠ tFeed ∧ T.text ≠ tPick) (h8 : T.kind = 8 → T.text ≠ tOpen)
theorem atom_case (T : Tk) : AtomC T := by
  by_cases h6 : T.kind = 6
  · exact .num h6
  by_cases h5 : T.kind = 5
  · exact .day h5
  by_cases h4 : T.kind = 4
  · exact .cur h4
  by_cases h1 : T.kind = 1 ∨ T.kind = 3
  · exact .name h1
  by_cases h2 : T.kind = 2
  · by_cases a : T.text = tTrue
    · exact .yes h2 a
    by_cases b : T.text = tFalse
    · exact .no h2 b
    by_cases c : T.text = tFeed
    · exact .feed h2 c
    by_cases d : T.text = tPick
    · exact .pick h2 d
    exact .none ⟨h6, h5, h4, fun e => h1 (.inl e), fun e => h1 (.inr e)⟩ (fun _ => ⟨a, b, c, d⟩) (fun e => by omega)
  by_cases h8 : T.kind = 8 ∧ T.text = tOpen
  · exact .paren h8.1 h8.2
  exact .none ⟨h6, h5, h4, fun e => h1 (.inl e), fun e => h1 (.inr e)⟩ (fun e => absurd e h2) (fun e a => h8 ⟨e, a⟩)

theorem is_of {l : List Tk} {w : List UInt8} (h : (hd l).kind = 2 ∨ (hd l).kind = 8) (ht : (hd l).text = w) : isT w l = true := by
  unfold isT
  rw [ht]
  rcases h with h | h <;> rw [h] <;> simp
theorem not_of {l : List Tk} {w : List UInt8} (h2 : (hd l).kind = 2 → (hd l).text ≠ w) (h8 : (hd l).kind = 8 → (hd l).text ≠ w) : ¬ isT w l = true := fun e => by
  obtain ⟨k, t⟩ := isT_kind e
  rcases k with k | k
  · exact h2 k t
  · exact h8 k t
section
variable {nest : Nat} {l : List Tk}
theorem atom_eq (nest : Nat) (l : List Tk) : rd .atom nest l = body rd .atom nest l := rd_eq .atom nest l
theorem atom_num (h : (hd l).kind = 6) : rd .atom nest l = .ok (mkN 5 [] (hd l).n [] (hd l).pos, stepL l) := (atom_eq nest l).trans (if_pos h)
theorem atom_day (h : (hd l).kind = 5) : rd .atom nest l = .ok (mkN 6 [] (hd l).n [] (hd l).pos, stepL l) := (atom_eq nest l).trans ((if_neg (by omega)).trans (if_pos h))
theorem atom_cur (h : (hd l).kind = 4) : rd .atom nest l = .ok (mkN 7 (hd l).text 0 [] (hd l).pos, stepL l) := (atom_eq nest l).trans ((if_neg (by omega)).trans ((if_neg (by omega)).trans (if_pos h)))
theorem atom_name (h : (hd l).kind = 1 ∨ (hd l).kind = 3) : rd .atom nest l = if isT tOpen (stepL l) = true then (rd (.args []) nest (stepL (stepL l))).then fun a r => made (mkN 11 (hd l).text 0 a.kids (hd l).pos) r else .ok (mkN 10 (hd l).text 0 [] (hd l).pos, stepL l) :=
  (atom_eq nest l).trans ((if_neg (by omega)).trans ((if_neg (by omega)).trans ((if_neg (by omega)).trans (if_pos h))))
theorem atom_skip (h : (hd l).kind = 2 ∨ (hd l).kind = 8) (x : Rd) (hx : (if isT tTrue l = true then .ok (mkN 8 [] 1 [] (hd l).pos, stepL l)
    else if isT tFalse l = true then .ok (mkN 8 [] 0 [] (hd l).pos, stepL l)
    else if isT tFeed l = true then kindT 7 (stepL l) fun s r => .ok (mkN 9 s.text 0 [] (hd l).pos, r)
    else if isT tPick l = true then pickT nest (stepL l) (hd l).pos
    else if isT tOpen l = true then (rd .expr nest (stepL l)).then fun x r => wantT tShut r fun r => .ok (x, r)
    else .error (74, (hd l).pos)) = x) : rd .atom nest l = x := (atom_eq nest l).trans ((if_neg (by omega)).trans ((if_neg (by omega)).trans ((if_neg (by omega)).trans ((if_neg (by omega)).trans hx))))
theorem atom_yes (h : (hd l).kind = 2) (t : (hd l).text = tTrue) : rd .atom nest l = .ok (mkN 8 [] 1 [] (hd l).pos, stepL l) := atom_skip (.inl h) _ (if_pos (is_of (.inl h) t))
theorem no_of (h : (hd l).kind = 2) {w v : List UInt8} (t : (hd l).text = w) (hne : w ≠ v) : ¬ isT v l = true := not_of (fun _ => t ▸ hne) (fun e => by omega)
theorem atom_no (h : (hd l).kind = 2) (t : (hd l).text = tFalse) : rd .atom nest l = .ok (mkN 8 [] 0 [] (hd l).pos, stepL l) := atom_skip (.inl h) _ ((if_neg (no_of h t (by decide))).trans (if_pos (is_of (.inl h) t)))
theorem atom_feed (h : (hd l).kind = 2) (t : (hd l).text = tFeed) : rd .atom nest l = kindT 7 (stepL l) fun s r => .ok (mkN 9 s.text 0 [] (hd l).pos, r) :=
  atom_skip (.inl h) _ ((if_neg (no_of h t (by decide))).trans ((if_neg (no_of h t (by decide))).trans (if_pos (is_of (.inl h) t))))
theorem atom_pick (h : (hd l).kind = 2) (t : (hd l).text = tPick) : rd .atom nest l = pickT nest (stepL l) (hd l).pos :=
  atom_skip (.inl h) _ ((if_neg (no_of h t (by decide))).trans ((if_neg (no_of h t (by decide))).trans ((if_neg (no_of h t (by decide))).trans (if_pos (is_of (.inl h) t)))))
theorem atom_paren (_hz : TkZ (hd l)) (h : (hd l).kind = 8) (t : (hd l).text = tOpen) : rd .atom nest l = (rd .expr nest (stepL l)).then fun x r => wantT tShut r fun r => .ok (x, r) := by
  have no : ∀ v, tOpen ≠ v → ¬ isT v l = true := fun v hv => not_of (fun e => by omega) (fun _ => t ▸ hv)
  exact atom_skip (.inr h) _ ((if_neg (no _ (by decide))).trans ((if_neg (no _ (by decide))).trans ((if_neg (no _ (by decide))).trans ((if_neg (no _ (by decide))).trans (if_pos (is_of (.inr h) t))))))
theorem atom_none (hz : TkZ (hd l)) (h1 : (hd l).kind ≠ 6 ∧ (hd l).kind ≠ 5 ∧ (hd l).kind ≠ 4 ∧ (hd l).kind ≠ 1 ∧ (hd l).kind ≠ 3) (h2 : (hd l).kind = 2 → (hd l).text ≠ tTrue ∧ (hd l).text ≠ tFalse ∧ (hd l).text ≠ tFeed ∧ (hd l).text ≠ tPick) (h8 : (hd l).kind = 8 → (hd l).text ≠ tOpen) : rd .atom nest l = .error (74, (hd l).pos) :=
  (atom_eq nest l).trans ((if_neg h1.1).trans ((if_neg h1.2.1).trans ((if_neg h1.2.2.1).trans ((if_neg (by omega)).trans ((if_neg (not_of (fun e => (h2 e).1) (fun e => (hz.sign e).1))).trans ((if_neg (not_of (fun e => (h2 e).2.1) (fun e => (hz.sign e).2.1))).trans
    ((if_neg (not_of (fun e => (h2 e).2.2.1) (fun e => (hz.sign e).2.2.1))).trans ((if_neg (not_of (fun e => (h2 e).2.2.2) (fun e => (hz.sign e).2.2.2))).trans (if_neg (not_of hz.word h8))))))))))
end

end Go.Proofs.YtcndknkdhlmdnaaGreatDoor

/-
  usanceref07's parser: an atom.
-/
namespace Go.Proofs.YtcndknkdhlmdnaaGreatDoor
open Go.RowKit
set_option maxRecDepth 100000


/-- a node without kids -/
theorem lies_leaf {av : Nat → Prop} {W : World} {k n p : Int} {s : List UInt8} (hk : (Lit.int .i64 k).wf = true) (hs : s.length ≤ 16384) (hn : (Lit.int .i64 n).wf = true) (hp : (Lit.int .i64 p).wf = true) : (mkN k s n [] p).lies av W none 0 :=
  Nd.lies.mk' hk (by show s.toArray.size ≤ maxLen; unfold maxLen; simp; omega) hn hp (Nat.le_refl _) (by unfold maxLen; decide) trivial
theorem depth_leaf (k : Int) (s : List UInt8) (n p : Int) : depthN (mkN k s n [] p) = 1 := by
  unfold mkN; rw [depthN, depthKs]
theorem depth_mk (k : Int) (s : List UInt8) (n p : Int) (ks : List Nd) : depthN (mkN k s n ks p) = depthKs ks + 1 := by
  unfold mkN; rw [depthN]
theorem madeX_low {t : Nd} (h : depthN t ≤ 100) (σ : Sx) : madeX t σ = σ := by
  cases σ with
  | error e => rfl
  | ok r => exact if_neg (by omega)
/-- made, of a node that stands cell by cell -/
theorem pmade_n (P g cap : Nat) (ts : List Tk) (nest : Nat) (σ : Sx) (t : Nd) (w : World) (hn : nest ≤ 300) (h : SP P g cap ts nest σ w) (_hk : t.kids.length = 0) (hd : depthN t ≤ 100) (hl : t.lies (fun _ => False) w none 0) :
    Calls Tryz.prog 136 #[.pointer (some ⟨P, 0, none⟩), .agg #[.int .i64 t.kind, .string t.text, .int .i64 t.n, .slice none t.kids.length 0, .int .i64 t.place]] w (MadeP P g cap ts nest σ t none 0 w) :=
  pmade_any P g cap ts nest σ t none 0 w hn h fun _ _ => ⟨by omega, _, fun _ hb => hb.elim, hl⟩

/-- what stands at the way's fork -/
structure AtB (P g cap : Nat) (ts : List Tk) (nest : Nat) (l : List Tk) (w W2 W3 W4 : World) : Prop where
  p4 : SP P g cap ts nest (.ok l) W4
  p3 : P < W3.heap.size ∧ g < W3.heap.size
  s3 : w.grownBy W3 (some P)
  s4 : Below W3.heap.size W3 W4
  res : NBox w.heap.size nd0 none 0 W4
  tok : TBox W2.heap.size (hd l) W4
  nod : NBox W3.heap.size (mkN 0 [] (hd l).n [] (hd l).pos) none 0 W4
  lt : w.heap.size < W2.heap.size ∧ W2.heap.size < W3.heap.size

set_option maxHeartbeats 4000000 in
theorem patom_any (P g cap : Nat) (ts : List Tk) (he : Ends ts) (htk : ∀ t ∈ ts, TkOk t) (htz : ∀ t ∈ ts, TkZ t) (l : List Tk) (hE : ∀ r, r.length < l.length → CE P g cap ts r) : CA P g cap ts l := by
  intro nest w hn h
  have P0 := Lib.hid h
  have HP := Lib.hid (show w.heap.size ≠ P ∧ w.heap.size ≠ g from ⟨Nat.ne_of_gt h.blocks.1, Nat.ne_of_gt h.blocks.2⟩)
  have HEx := Lib.hid hE
  have HTK := Lib.hid htk
  have HTZ := Lib.hid htz
  obtain ⟨X, hX⟩ : ∃ X, X = rd .atom nest l := ⟨_, rfl⟩
  rw [← hX]
  have HX := Lib.hid hX
  obtain ⟨W1, hW1⟩ : ∃ W, W = w.alloc (.cells #[.int .i64 0, .string ⟨#[]⟩, .int .i64 0, .slice none 0 0, .int .i64 0] 24) := ⟨_, rfl⟩
  have B1 := Lib.hid (show NBox w.heap.size nd0 none 0 W1 from hW1 ▸ NBox.make w nd0 none 0)
  have E1 := Lib.hid (show Below w.heap.size w W1 from hW1 ▸ nbelow1 _ _)
  have S1 := Lib.hid (grown_of (r := some P) E1.out)
  have P1 := Lib.hid (P0.out.below E1.out)
  obtain ⟨i, -, hp⟩ := P1.out.ok
  obtain ⟨⟨p0, p1, p2, p3, p4⟩, -⟩ := hp.cells
  have hpl := hp.plt
  have C2 := Lib.hid (plook_s P g cap ts nest (.ok l) W1 P1.out)
  clear h hE htk htz hX hp
  subst hW1
  go_enter Tryz.func210, Tryz.ntmps210
  go_wp2_with fail
  (with_reducible refine Calls.mono C2.out ?_)
  rintro e W2 ⟨T, rfl, hb, hT⟩
  obtain ⟨W1, hW1⟩ : ∃ W, W = w.alloc (.cells #[.int .i64 0, .string ⟨#[]⟩, .int .i64 0, .slice none 0 0, .int .i64 0] 24) := ⟨_, rfl⟩
  rw [← hW1] at B1 E1 S1 P1 hb
  have HT := Lib.hid (hT l rfl)
  have S2 := Lib.hid (grown_of (r := some P) hb)
  have P2 := Lib.hid (P1.out.below hb)
  have B2 := Lib.hid (B1.out.below hb)
  clear hb hT p0 p1 p2 p3 p4 hpl C2 hW1
  have HT0 := Lib.hid (show TkOk T from HT.out ▸ HTK.out _ P1.out.mem)
  have HTz := Lib.hid (show TkZ T from HT.out ▸ HTZ.out _ P1.out.mem)
  obtain ⟨W3, hW3⟩ : ∃ W, W = W2.alloc (.cells #[.int .i64 T.kind, .string ⟨T.text.toArray⟩, .int .i64 T.n, .int .i64 T.pos] 39) := ⟨_, rfl⟩
  have B3 := Lib.hid (show TBox W2.heap.size T W3 from hW3 ▸ TBox.make W2 T)
  have E3 := Lib.hid (show Below W2.heap.size W2 W3 from hW3 ▸ nbelow1 _ _)
  have S3 := Lib.hid (grown_of (r := some P) E3.out)
  have P3 := Lib.hid (P2.out.below E3.out)
  unfold tkV
  go_upto_region 4 with fail
  rw [← hW3]
  clear hW3
  obtain ⟨⟨t0, t1, t2, t3⟩, -⟩ := B3.out.cells
  have hl3 : W2.heap.size < W3.heap.size := B3.out.lt
  obtain ⟨W4, hW4⟩ : ∃ W, W = W3.alloc (.cells #[.int .i64 0, .string ⟨#[]⟩, .int .i64 T.n, .slice none 0 0, .int .i64 T.pos] 24) := ⟨_, rfl⟩
  have B4 := Lib.hid (show NBox W3.heap.size (mkN 0 [] T.n [] T.pos) none 0 W4 from hW4 ▸ NBox.make W3 (mkN 0 [] T.n [] T.pos) none 0)
  have E4 := Lib.hid (show Below W3.heap.size W3 W4 from hW4 ▸ nbelow1 _ _)
  have S4 := Lib.hid (grown_of (r := some P) E4.out)
  have P4 := Lib.hid (P3.out.below E4.out)
  go_upto_region 7 with fail
  rw [← hW4]
  clear hW4 t0 t1 t2 t3 hl3
  have S13 := Lib.hid (show w.grownBy W3 (some P) from grown_trans (grown_trans S1.out S2.out) S3.out)
  have T4 := Lib.hid (show TBox W2.heap.size T W4 from B3.out.below E4.out)
  have N4 := Lib.hid (show NBox w.heap.size nd0 none 0 W4 from (B2.out.below E3.out).below E4.out)
  have hP3 := Lib.hid (show P < W2.heap.size ∧ g < W2.heap.size ∧ P < W3.heap.size ∧ g < W3.heap.size by have h2 := P2.out.blocks; have h3 := P3.out.blocks; omega)
  have hLT := Lib.hid (show w.heap.size < W2.heap.size ∧ W2.heap.size < W3.heap.size from ⟨B2.out.lt, B3.out.lt⟩)
  have hsz : w.heap.size < W2.heap.size ∧ W2.heap.size < W3.heap.size ∧ W3.heap.size < W4.heap.size := ⟨hLT.out.1, hLT.out.2, B4.out.lt⟩
  obtain ⟨⟨t0, t1, t2, t3⟩, -⟩ := T4.out.cells
  obtain ⟨⟨n0, n1, n2, n3, n4⟩, ⟨e0, e1, e2, e3, e4⟩⟩ := B4.out.cells
  clear S1 S2 S3 S4 P1 P2 P3 B1 B2 B3 E1 E3 HTZ
  rcases atom_case T with hk | hk | hk | ⟨hk, ht⟩ | ⟨hk, ht⟩ | ⟨hk, ht⟩ | ⟨hk, ht⟩ | hk | ⟨hk, ht⟩ | ⟨hk, h2, h8⟩
  case' num =>
    have k6 : (T.kind == 6) = true := by rw [hk]; rfl
    have k5 : (T.kind == 5) = false := by rw [hk]; rfl
    have k4 : (T.kind == 4) = false := by rw [hk]; rfl
    have k2 : (T.kind == 2) = false := by rw [hk]; rfl
    have k1 : (T.kind == 1) = false := by rw [hk]; rfl
    have k3 : (T.kind == 3) = false := by rw [hk]; rfl
    have k8 : (T.kind == 8) = false := by rw [hk]; rfl
    have hz : T.n = T.n := rfl
    obtain ⟨W5, hW5⟩ : ∃ W, W = (W4.setCell ⟨W3.heap.size, 0, none⟩ (.int .i64 5)) := ⟨_, rfl⟩
    have hN : NBox W3.heap.size (mkN 5 [] T.n [] T.pos) none 0 W5 := by rw [hW5]; exact (heap_set B4.out 0 (.int .i64 5))
    have G5 := Lib.hid (show w.grownBy W5 (some P) from grown_trans S13.out (by rw [hW5]; exact (grown_later (grown_of (r := some P) E4.out) (Nat.le_refl _) 0 (.int .i64 5))))
    have P5 := Lib.hid (show SP P g cap ts nest (.ok l) W5 from P4.out.keeps (by rw [hW5]; exact (by have hav : ∀ b, b = P ∨ b = g → b ≠ W3.heap.size := fun b hb e => by { subst e; have := hP3.out; omega }; exact ((KeepsV.refl _ W4).set hav 0 (.int .i64 5)))) (by rw [hW5]; simp [World.setCell]))
    have N5 := Lib.hid (show NBox w.heap.size nd0 none 0 W5 by rw [hW5]; exact (N4.out.set (by have := hLT.out; omega) 0 (.int .i64 5)))
    have hl5 : W3.heap.size < W5.heap.size := hN.lt
    have hX : X = .ok (mkN 5 [] T.n [] T.pos, stepL l) := by
      rw [HX.out, atom_num (HT.out ▸ hk), ← HT.out]
    have HTs := Lib.hid (show (Lit.int .i64 (mkN 5 [] T.n [] T.pos).n).wf = true from HT0.out.1)
    have HND := Lib.hid (show (mkN 5 [] T.n [] T.pos).kids.length = 0 ∧ depthN (mkN 5 [] T.n [] T.pos) ≤ 100 ∧ ∀ w, (mkN 5 [] T.n [] T.pos).lies (fun _ => False) w none 0 from ⟨rfl, by rw [depth_leaf]; decide, fun w => lies_leaf rfl (by decide) HTs.out HT0.out.2.1⟩)
    clear hk hz HTs
    go_upto_region 37 with fail
    rw [← hW5]
    clear hW5
    obtain ⟨N, hNd⟩ : ∃ N, N = mkN 5 [] T.n [] T.pos := ⟨_, rfl⟩
    rw [← hNd] at hN hX HND
    clear hNd k6 k5 k4 k2 k1 k3 k8
  case' day =>
    have k6 : (T.kind == 6) = false := by rw [hk]; rfl
    have k5 : (T.kind == 5) = true := by rw [hk]; rfl
    have k4 : (T.kind == 4) = false := by rw [hk]; rfl
    have k2 : (T.kind == 2) = false := by rw [hk]; rfl
    have k1 : (T.kind == 1) = false := by rw [hk]; rfl
    have k3 : (T.kind == 3) = false := by rw [hk]; rfl
    have k8 : (T.kind == 8) = false := by rw [hk]; rfl
    have hz : T.n = T.n := rfl
    obtain ⟨W5, hW5⟩ : ∃ W, W = (W4.setCell ⟨W3.heap.size, 0, none⟩ (.int .i64 6)) := ⟨_, rfl⟩
    have hN : NBox W3.heap.size (mkN 6 [] T.n [] T.pos) none 0 W5 := by rw [hW5]; exact (heap_set B4.out 0 (.int .i64 6))
    have G5 := Lib.hid (show w.grownBy W5 (some P) from grown_trans S13.out (by rw [hW5]; exact (grown_later (grown_of (r := some P) E4.out) (Nat.le_refl _) 0 (.int .i64 6))))
    have P5 := Lib.hid (show SP P g cap ts nest (.ok l) W5 from P4.out.keeps (by rw [hW5]; exact (by have hav : ∀ b, b = P ∨ b = g → b ≠ W3.heap.size := fun b hb e => by { subst e; have := hP3.out; omega }; exact ((KeepsV.refl _ W4).set hav 0 (.int .i64 6)))) (by rw [hW5]; simp [World.setCell]))
    have N5 := Lib.hid (show NBox w.heap.size nd0 none 0 W5 by rw [hW5]; exact (N4.out.set (by have := hLT.out; omega) 0 (.int .i64 6)))
    have hl5 : W3.heap.size < W5.heap.size := hN.lt
    have hX : X = .ok (mkN 6 [] T.n [] T.pos, stepL l) := by
      rw [HX.out, atom_day (HT.out ▸ hk), ← HT.out]
    have HTs := Lib.hid (show (Lit.int .i64 (mkN 6 [] T.n [] T.pos).n).wf = true from HT0.out.1)
    have HND := Lib.hid (show (mkN 6 [] T.n [] T.pos).kids.length = 0 ∧ depthN (mkN 6 [] T.n [] T.pos) ≤ 100 ∧ ∀ w, (mkN 6 [] T.n [] T.pos).lies (fun _ => False) w none 0 from ⟨rfl, by rw [depth_leaf]; decide, fun w => lies_leaf rfl (by decide) HTs.out HT0.out.2.1⟩)
    clear hk hz HTs
    go_upto_region 37 with fail
    rw [← hW5]
    clear hW5
    obtain ⟨N, hNd⟩ : ∃ N, N = mkN 6 [] T.n [] T.pos := ⟨_, rfl⟩
    rw [← hNd] at hN hX HND
    clear hNd k6 k5 k4 k2 k1 k3 k8
  case' cur =>
    have k6 : (T.kind == 6) = false := by rw [hk]; rfl
    have k5 : (T.kind == 5) = false := by rw [hk]; rfl
    have k4 : (T.kind == 4) = true := by rw [hk]; rfl
    have k2 : (T.kind == 2) = false := by rw [hk]; rfl
    have k1 : (T.kind == 1) = false := by rw [hk]; rfl
    have k3 : (T.kind == 3) = false := by rw [hk]; rfl
    have k8 : (T.kind == 8) = false := by rw [hk]; rfl
    have hz : T.n = T.n := rfl
    obtain ⟨W5, hW5⟩ : ∃ W, W = ((W4.setCell ⟨W3.heap.size, 0, none⟩ (.int .i64 7)).setCell ⟨W3.heap.size, 1, none⟩ (.string ⟨T.text.toArray⟩)) := ⟨_, rfl⟩
    have hN : NBox W3.heap.size (mkN 7 T.text T.n [] T.pos) none 0 W5 := by rw [hW5]; exact (heap_set (heap_set B4.out 0 (.int .i64 7)) 1 (.string ⟨T.text.toArray⟩))
    have G5 := Lib.hid (show w.grownBy W5 (some P) from grown_trans S13.out (by rw [hW5]; exact (grown_later (grown_later (grown_of (r := some P) E4.out) (Nat.le_refl _) 0 (.int .i64 7)) (Nat.le_refl _) 1 (.string ⟨T.text.toArray⟩))))
    have P5 := Lib.hid (show SP P g cap ts nest (.ok l) W5 from P4.out.keeps (by rw [hW5]; exact (by have hav : ∀ b, b = P ∨ b = g → b ≠ W3.heap.size := fun b hb e => by { subst e; have := hP3.out; omega }; exact (((KeepsV.refl _ W4).set hav 0 (.int .i64 7)).set hav 1 (.string ⟨T.text.toArray⟩)))) (by rw [hW5]; simp [World.setCell]))
    have N5 := Lib.hid (show NBox w.heap.size nd0 none 0 W5 by rw [hW5]; exact ((N4.out.set (by have := hLT.out; omega) 0 (.int .i64 7)).set (by have := hLT.out; omega) 1 (.string ⟨T.text.toArray⟩)))
    have hl5 : W3.heap.size < W5.heap.size := hN.lt
    have hX : X = .ok (mkN 7 T.text T.n [] T.pos, stepL l) := by
      rw [HX.out, atom_cur (HT.out ▸ hk), ← HT.out]; rw [(HTz.out.zero (.inl hk))]
    have HTs := Lib.hid (show (Lit.int .i64 (mkN 7 T.text T.n [] T.pos).n).wf = true from HT0.out.1)
    have HND := Lib.hid (show (mkN 7 T.text T.n [] T.pos).kids.length = 0 ∧ depthN (mkN 7 T.text T.n [] T.pos) ≤ 100 ∧ ∀ w, (mkN 7 T.text T.n [] T.pos).lies (fun _ => False) w none 0 from ⟨rfl, by rw [depth_leaf]; decide, fun w => lies_leaf rfl HT0.out.2.2 HTs.out HT0.out.2.1⟩)
    clear hk hz HTs
    go_upto_region 37 with fail
    rw [← hW5]
    clear hW5
    obtain ⟨N, hNd⟩ : ∃ N, N = mkN 7 T.text T.n [] T.pos := ⟨_, rfl⟩
    rw [← hNd] at hN hX HND
    clear hNd k6 k5 k4 k2 k1 k3 k8
  case' yes =>
    have k6 : (T.kind == 6) = false := by rw [hk]; rfl
    have k5 : (T.kind == 5) = false := by rw [hk]; rfl
    have k4 : (T.kind == 4) = false := by rw [hk]; rfl
    have k2 : (T.kind == 2) = true := by rw [hk]; rfl
    have k1 : (T.kind == 1) = false := by rw [hk]; rfl
    have k3 : (T.kind == 3) = false := by rw [hk]; rfl
    have k8 : (T.kind == 8) = false := by rw [hk]; rfl
    have x_yes : (T.text == [116, 114, 117, 101]) = true := by rw [ht]; rfl
    have x_no : (T.text == [102, 97, 108, 115, 101]) = false := by rw [ht]; rfl
    have x_feed : (T.text == [102, 101, 101, 100]) = false := by rw [ht]; rfl
    have x_pick : (T.text == [112, 105, 99, 107]) = false := by rw [ht]; rfl
    have x_paren : (T.text == [40]) = false := by rw [ht]; rfl
    have hz : T.n = T.n := rfl
    obtain ⟨W5, hW5⟩ : ∃ W, W = ((W4.setCell ⟨W3.heap.size, 0, none⟩ (.int .i64 8)).setCell ⟨W3.heap.size, 2, none⟩ (.int .i64 1)) := ⟨_, rfl⟩
    have hN : NBox W3.heap.size (mkN 8 [] 1 [] T.pos) none 0 W5 := by rw [hW5]; exact (heap_set (heap_set B4.out 0 (.int .i64 8)) 2 (.int .i64 1))
    have G5 := Lib.hid (show w.grownBy W5 (some P) from grown_trans S13.out (by rw [hW5]; exact (grown_later (grown_later (grown_of (r := some P) E4.out) (Nat.le_refl _) 0 (.int .i64 8)) (Nat.le_refl _) 2 (.int .i64 1))))
    have P5 := Lib.hid (show SP P g cap ts nest (.ok l) W5 from P4.out.keeps (by rw [hW5]; exact (by have hav : ∀ b, b = P ∨ b = g → b ≠ W3.heap.size := fun b hb e => by { subst e; have := hP3.out; omega }; exact (((KeepsV.refl _ W4).set hav 0 (.int .i64 8)).set hav 2 (.int .i64 1)))) (by rw [hW5]; simp [World.setCell]))
    have N5 := Lib.hid (show NBox w.heap.size nd0 none 0 W5 by rw [hW5]; exact ((N4.out.set (by have := hLT.out; omega) 0 (.int .i64 8)).set (by have := hLT.out; omega) 2 (.int .i64 1)))
    have hl5 : W3.heap.size < W5.heap.size := hN.lt
    have hX : X = .ok (mkN 8 [] 1 [] T.pos, stepL l) := by
      rw [HX.out, atom_yes (HT.out ▸ hk) (HT.out ▸ ht), ← HT.out]
    have HTs := Lib.hid (show (Lit.int .i64 (mkN 8 [] 1 [] T.pos).n).wf = true from rfl)
    have HND := Lib.hid (show (mkN 8 [] 1 [] T.pos).kids.length = 0 ∧ depthN (mkN 8 [] 1 [] T.pos) ≤ 100 ∧ ∀ w, (mkN 8 [] 1 [] T.pos).lies (fun _ => False) w none 0 from ⟨rfl, by rw [depth_leaf]; decide, fun w => lies_leaf rfl (by decide) HTs.out HT0.out.2.1⟩)
    clear hk ht hz HTs
    go_upto_region 37 with fail
    rw [← hW5]
    clear hW5
    obtain ⟨N, hNd⟩ : ∃ N, N = mkN 8 [] 1 [] T.pos := ⟨_, rfl⟩
    rw [← hNd] at hN hX HND
    clear hNd k6 k5 k4 k2 k1 k3 k8 x_yes x_no x_feed x_pick x_paren
  case' no =>
    have k6 : (T.kind == 6) = false := by rw [hk]; rfl
    have k5 : (T.kind == 5) = false := by rw [hk]; rfl
    have k4 : (T.kind == 4) = false := by rw [hk]; rfl
    have k2 : (T.kind == 2) = true := by rw [hk]; rfl
    have k1 : (T.kind == 1) = false := by rw [hk]; rfl
    have k3 : (T.kind == 3) = false := by rw [hk]; rfl
    have k8 : (T.kind == 8) = false := by rw [hk]; rfl
    have x_yes : (T.text == [116, 114, 117, 101]) = false := by rw [ht]; rfl
    have x_no : (T.text == [102, 97, 108, 115, 101]) = true := by rw [ht]; rfl
    have x_feed : (T.text == [102, 101, 101, 100]) = false := by rw [ht]; rfl
    have x_pick : (T.text == [112, 105, 99, 107]) = false := by rw [ht]; rfl
    have x_paren : (T.text == [40]) = false := by rw [ht]; rfl
    have hz : T.n = T.n := rfl
    obtain ⟨W5, hW5⟩ : ∃ W, W = (W4.setCell ⟨W3.heap.size, 0, none⟩ (.int .i64 8)) := ⟨_, rfl⟩
    have hN : NBox W3.heap.size (mkN 8 [] T.n [] T.pos) none 0 W5 := by rw [hW5]; exact (heap_set B4.out 0 (.int .i64 8))
    have G5 := Lib.hid (show w.grownBy W5 (some P) from grown_trans S13.out (by rw [hW5]; exact (grown_later (grown_of (r := some P) E4.out) (Nat.le_refl _) 0 (.int .i64 8))))
    have P5 := Lib.hid (show SP P g cap ts nest (.ok l) W5 from P4.out.keeps (by rw [hW5]; exact (by have hav : ∀ b, b = P ∨ b = g → b ≠ W3.heap.size := fun b hb e => by { subst e; have := hP3.out; omega }; exact ((KeepsV.refl _ W4).set hav 0 (.int .i64 8)))) (by rw [hW5]; simp [World.setCell]))
    have N5 := Lib.hid (show NBox w.heap.size nd0 none 0 W5 by rw [hW5]; exact (N4.out.set (by have := hLT.out; omega) 0 (.int .i64 8)))
    have hl5 : W3.heap.size < W5.heap.size := hN.lt
    have hX : X = .ok (mkN 8 [] T.n [] T.pos, stepL l) := by
      rw [HX.out, atom_no (HT.out ▸ hk) (HT.out ▸ ht), ← HT.out]; rw [(HTz.out.zero (.inr hk))]
    have HTs := Lib.hid (show (Lit.int .i64 (mkN 8 [] T.n [] T.pos).n).wf = true from HT0.out.1)
    have HND := Lib.hid (show (mkN 8 [] T.n [] T.pos).kids.length = 0 ∧ depthN (mkN 8 [] T.n [] T.pos) ≤ 100 ∧ ∀ w, (mkN 8 [] T.n [] T.pos).lies (fun _ => False) w none 0 from ⟨rfl, by rw [depth_leaf]; decide, fun w => lies_leaf rfl (by decide) HTs.out HT0.out.2.1⟩)
    clear hk ht hz HTs
    go_upto_region 37 with fail
    rw [← hW5]
    clear hW5
    obtain ⟨N, hNd⟩ : ∃ N, N = mkN 8 [] T.n [] T.pos := ⟨_, rfl⟩
    rw [← hNd] at hN hX HND
    clear hNd k6 k5 k4 k2 k1 k3 k8 x_yes x_no x_feed x_pick x_paren
  case num | day | cur | yes | no =>
    have HX' := Lib.hid hX
    have HN := Lib.hid hN
    clear hX hN t0 t1 t2 t3 n0 n1 n2 n3 n4 e0 e1 e2 e3 e4 hsz
    have C6 := Lib.hid (pstep_s P g cap ts nest (.ok l) W5 P5.out he)
    go_wp2_with fail
    (with_reducible refine Calls.mono C6.out ?_)
    rintro e W6 ⟨S, rfl, hs, hg, -⟩
    have P6 := Lib.hid (show SP P g cap ts nest (.ok (stepL l)) W6 from hs)
    have G6 := Lib.hid (grown_trans G5.out hg)
    have N6 := Lib.hid (N5.out.grown hg HP.out.1)
    obtain ⟨⟨n0, n1, n2, n3, n4⟩, -⟩ := (HN.out.grown hg (Nat.ne_of_gt hP3.out.2.2.1)).cells
    have CM := Lib.hid (pmade_n P g cap ts nest (.ok (stepL l)) N W6 hn P6.out HND.out.1 HND.out.2.1 (HND.out.2.2 W6))
    clear hs hg C6
    unfold tkV
    go_wp2_with fail
    (with_reducible refine Calls.mono CM.out ?_)
    rintro e W7 ⟨rfl, hs, hg⟩
    rw [madeX_low HND.out.2.1] at hs
    have P7 := Lib.hid hs
    have G7 := Lib.hid (grown_trans G6.out hg)
    have N7 := Lib.hid (N6.out.grown hg HP.out.1)
    obtain ⟨⟨z0, z1, z2, z3, z4⟩, ⟨f0, f1, f2, f3, f4⟩⟩ := N7.out.cells
    have hsz : w.heap.size < W7.heap.size := N7.out.lt
    clear hs hg CM n0 n1 n2 n3 n4
    unfold Nd.val
    go_wp2_with fail
    refine bodyPost_ret (v := N.val none 0) (by simp [results, Tryz.results210, go_sem, Nd.val, z0, z1, z2, z3, z4]) rfl ?_
    rw [HX'.out]
    refine RdP.fin P7.out G7.out HP.out (Nat.le_refl _) fun t' r hx => ?_
    cases hx
    exact ⟨rfl, ⟨_, fun c hc => hc.elim, HND.out.2.2 W7⟩, HND.out.2.1⟩
  case feed =>
    have k6 : (T.kind == 6) = false := by rw [hk]; rfl
    have k5 : (T.kind == 5) = false := by rw [hk]; rfl
    have k4 : (T.kind == 4) = false := by rw [hk]; rfl
    have k2 : (T.kind == 2) = true := by rw [hk]; rfl
    have k1 : (T.kind == 1) = false := by rw [hk]; rfl
    have k3 : (T.kind == 3) = false := by rw [hk]; rfl
    have k8 : (T.kind == 8) = false := by rw [hk]; rfl
    have x_yes : (T.text == [116, 114, 117, 101]) = false := by rw [ht]; rfl
    have x_no : (T.text == [102, 97, 108, 115, 101]) = false := by rw [ht]; rfl
    have x_feed : (T.text == [102, 101, 101, 100]) = true := by rw [ht]; rfl
    have x_pick : (T.text == [112, 105, 99, 107]) = false := by rw [ht]; rfl
    have x_paren : (T.text == [40]) = false := by rw [ht]; rfl
    have HR := Lib.hid (show X = kindT 7 (stepL l) fun s r => .ok (mkN 9 s.text 0 [] T.pos, r) by rw [HX.out, atom_feed (HT.out ▸ hk) (HT.out ▸ ht), HT.out])
    clear hk ht
    have C5 := Lib.hid (pstep_s P g cap ts nest (.ok l) W4 P4.out he)
    go_wp2_with fail
    (with_reducible refine Calls.mono C5.out ?_)
    rintro e W5 ⟨S, rfl, hs, hg, -⟩
    have P5 := Lib.hid (show SP P g cap ts nest (.ok (stepL l)) W5 from hs)
    have G5 := Lib.hid (grown_trans S13.out (grown_trans (grown_of E4.out) hg))
    have P5g := Lib.hid hg
    have N5 := Lib.hid (N4.out.grown hg HP.out.1)
    have T5 := Lib.hid (T4.out.grown hg (Nat.ne_of_gt hP3.out.1))
    have hl5 := Lib.hid (show W2.heap.size < W5.heap.size from T5.out.lt)
    clear hs hg C5 t0 t1 t2 t3 n0 n1 n2 n3 n4 e0 e1 e2 e3 e4 hsz
    unfold tkV
    clear k6 k5 k4 k2 k1 k3 k8 x_yes x_no x_feed x_pick x_paren
    have C6 := Lib.hid (pkind_any P g cap ts nest (.ok (stepL l)) 7 W5 hn P5.out he)
    go_wp2_with fail
    (with_reducible refine Calls.mono C6.out ?_)
    rintro e W6 ⟨S, rfl, hs, hg, hS⟩
    have HS := Lib.hid (show S = hd (stepL l) from hS _ rfl)
    have HS0 := Lib.hid (show TkOk S from HS.out ▸ HTK.out _ P5.out.mem)
    obtain ⟨σ1, hσ1⟩ : ∃ σ, σ = kindX 7 (.ok (stepL l)) := ⟨_, rfl⟩
    rw [← hσ1] at hs
    have Q1 := Lib.hid hσ1
    have P6 := Lib.hid hs
    have G6 := Lib.hid (grown_trans G5.out hg)
    have N6 := Lib.hid (N5.out.grown hg HP.out.1)
    have T6 := Lib.hid (T5.out.grown hg (Nat.ne_of_gt hP3.out.1))
    clear hs hg hS hσ1 C6
    obtain ⟨W7, hW7⟩ : ∃ W, W = W6.alloc (.cells #[.int .i64 S.kind, .string ⟨S.text.toArray⟩, .int .i64 S.n, .int .i64 S.pos] 39) := ⟨_, rfl⟩
    have B7 := Lib.hid (show TBox W6.heap.size S W7 from hW7 ▸ TBox.make W6 S)
    have E7 := Lib.hid (show Below W6.heap.size W6 W7 from hW7 ▸ nbelow1 _ _)
    have P7 := Lib.hid (P6.out.below E7.out)
    have N7 := Lib.hid (N6.out.below E7.out)
    have T7 := Lib.hid (T6.out.below E7.out)
    have G7 := Lib.hid (pgrown_below G6.out (E7.out.mono G6.out.size))
    have HD := Lib.hid (show depthN (mkN 9 S.text 0 [] T.pos) ≤ 100 ∧ ∀ w, (mkN 9 S.text 0 [] T.pos).lies (fun _ => False) w none 0 from ⟨by rw [depth_leaf]; decide, fun w => lies_leaf rfl HS0.out.2.2 rfl HT0.out.2.1⟩)
    have CM := Lib.hid (pmade_s P g cap ts nest σ1 9 S.text 0 [] T.pos none 0 0 rfl W7 hn P7.out fun r hr => ⟨Nat.le_trans HD.out.1 (by decide), _, fun b hb => hb.elim, HD.out.2 W7⟩)
    obtain ⟨⟨t0, t1, t2, t3⟩, -⟩ := T7.out.cells
    have hl6 : W2.heap.size < W6.heap.size := T6.out.lt
    unfold tkV
    subst hW7
    go_wp2_with fail
    (with_reducible refine Calls.mono CM.out ?_)
    rintro e W9 ⟨rfl, hs, hg⟩
    have P9 := Lib.hid hs
    have G9 := Lib.hid (grown_trans G7.out hg)
    have N9 := Lib.hid (N7.out.grown hg HP.out.1)
    obtain ⟨⟨z0, z1, z2, z3, z4⟩, ⟨f0, f1, f2, f3, f4⟩⟩ := N9.out.cells
    have hsz : w.heap.size < W9.heap.size := N9.out.lt
    clear hs CM t0 t1 t2 t3
    rw [madeX_low HD.out.1] at P9; clear hg
    rw [show (mkN 9 S.text 0 [] T.pos).val none 0 = .agg #[.int .i64 9, .string ⟨List.toArray S.text⟩, .int .i64 0, .slice none 0 0, .int .i64 T.pos] from rfl]
    go_wp2_with fail
    refine bodyPost_ret (v := (mkN 9 S.text 0 [] T.pos).val none 0) (by simp [results, Tryz.results210, go_sem, Nd.val, mkN, Nd.kind, Nd.text, Nd.n, Nd.kids, Nd.place, z0, z1, z2, z3, z4]) rfl ?_
    have hX : X = goX σ1 (fun r => .ok (mkN 9 S.text 0 [] T.pos, r)) := by
      rw [HR.out]
      exact (kind_go (.ok (stepL l)) 7 (fun s r => (.ok (mkN 9 s.text 0 [] T.pos, r) : Rd)) S (fun r h => by cases h; exact HS.out)).trans (by rw [← Q1.out])
    refine RdP.fin (by rw [hX, out_some]; exact P9.out) G9.out HP.out (Nat.le_refl _) fun t' r' hx => ?_
    rw [hX] at hx
    obtain ⟨r0, -, e2⟩ := go_inv hx
    cases e2
    exact ⟨rfl, ⟨_, fun c hc => hc.elim, HD.out.2 W9⟩, HD.out.1⟩
  case pick =>
    have k6 : (T.kind == 6) = false := by rw [hk]; rfl
    have k5 : (T.kind == 5) = false := by rw [hk]; rfl
    have k4 : (T.kind == 4) = false := by rw [hk]; rfl
    have k2 : (T.kind == 2) = true := by rw [hk]; rfl
    have k1 : (T.kind == 1) = false := by rw [hk]; rfl
    have k3 : (T.kind == 3) = false := by rw [hk]; rfl
    have k8 : (T.kind == 8) = false := by rw [hk]; rfl
    have x_yes : (T.text == [116, 114, 117, 101]) = false := by rw [ht]; rfl
    have x_no : (T.text == [102, 97, 108, 115, 101]) = false := by rw [ht]; rfl
    have x_feed : (T.text == [102, 101, 101, 100]) = false := by rw [ht]; rfl
    have x_pick : (T.text == [112, 105, 99, 107]) = true := by rw [ht]; rfl
    have x_paren : (T.text == [40]) = false := by rw [ht]; rfl
    have HR := Lib.hid (show X = pickT nest (stepL l) T.pos by rw [HX.out, atom_pick (HT.out ▸ hk) (HT.out ▸ ht), HT.out])
    clear hk ht
    have C5 := Lib.hid (pstep_s P g cap ts nest (.ok l) W4 P4.out he)
    go_wp2_with fail
    (with_reducible refine Calls.mono C5.out ?_)
    rintro e W5 ⟨S, rfl, hs, hg, -⟩
    have P5 := Lib.hid (show SP P g cap ts nest (.ok (stepL l)) W5 from hs)
    have G5 := Lib.hid (grown_trans S13.out (grown_trans (grown_of E4.out) hg))
    have P5g := Lib.hid hg
    have N5 := Lib.hid (N4.out.grown hg HP.out.1)
    have T5 := Lib.hid (T4.out.grown hg (Nat.ne_of_gt hP3.out.1))
    have hl5 := Lib.hid (show W2.heap.size < W5.heap.size from T5.out.lt)
    clear hs hg C5 t0 t1 t2 t3 n0 n1 n2 n3 n4 e0 e1 e2 e3 e4 hsz
    unfold tkV
    clear k6 k5 k4 k2 k1 k3 k8 x_yes x_no x_feed x_pick x_paren
    have C6 := Lib.hid (ppicked_any P g cap ts he HTK.out (stepL l) T.pos HT0.out.2.1 (fun r hr => HEx.out r (Nat.lt_of_lt_of_le hr (stepL_le l))) nest W5 hn P5.out)
    rw [← HR.out] at C6
    obtain ⟨⟨t0, t1, t2, t3⟩, -⟩ := T5.out.cells
    go_wp2_with fail
    (with_reducible refine Calls.mono C6.out ?_)
    rintro e W9 ⟨t, a, cp, rfl, hs, hg, hk⟩
    have P9 := Lib.hid hs
    have G9 := Lib.hid (grown_trans G5.out hg)
    have N9 := Lib.hid (N5.out.grown hg HP.out.1)
    have HK := Lib.hid hk
    obtain ⟨⟨z0, z1, z2, z3, z4⟩, ⟨f0, f1, f2, f3, f4⟩⟩ := N9.out.cells
    have hsz : w.heap.size < W9.heap.size := N9.out.lt
    have HL := Lib.hid (show w.heap.size < W5.heap.size from N5.out.lt)
    clear hs hg hk C6 t0 t1 t2 t3
    unfold Nd.val
    go_wp2_with fail
    refine bodyPost_ret (v := t.val a cp) (by simp [results, Tryz.results210, go_sem, Nd.val, Nd.kind, Nd.text, Nd.n, Nd.kids, Nd.place, z0, z1, z2, z3, z4]) rfl ?_
    refine RdP.fin P9.out G9.out HP.out (Nat.le_refl _) fun t' r' hx => ?_
    obtain ⟨e, hl, hd⟩ := HK.out t' r' hx
    exact ⟨e, ⟨_, fun c hc => ⟨fun e => by subst e; have := hc.1; have := HL.out; omega, by have := hc.1; have := HL.out; omega, hc.2⟩, hl⟩, hd⟩
  case name =>
    have k6 : (T.kind == 6) = false := beq_eq_false_iff_ne.2 (by omega)
    have k5 : (T.kind == 5) = false := beq_eq_false_iff_ne.2 (by omega)
    have k4 : (T.kind == 4) = false := beq_eq_false_iff_ne.2 (by omega)
    have k2 : (T.kind == 2) = false := beq_eq_false_iff_ne.2 (by omega)
    have HR := Lib.hid (show X = if isT tOpen (stepL l) = true then (rd (.args []) nest (stepL (stepL l))).then fun a r => made (mkN 11 T.text 0 a.kids T.pos) r else .ok (mkN 10 T.text 0 [] T.pos, stepL l) by rw [HX.out, atom_name (HT.out ▸ hk), HT.out])
    have hk' : (T.kind == 1) = true ∨ (T.kind == 1) = false ∧ (T.kind == 3) = true := by
      rcases hk with hk | hk
      · exact .inl (by rw [hk]; rfl)
      · exact .inr ⟨by rw [hk]; rfl, by rw [hk]; rfl⟩
    clear hk
    rcases hk' with k1 | ⟨k1, k3⟩
    all_goals
      have C5 := Lib.hid (pstep_s P g cap ts nest (.ok l) W4 P4.out he)
      go_wp2_with fail
      (with_reducible refine Calls.mono C5.out ?_)
      rintro e W5 ⟨S, rfl, hs, hg, -⟩
      have P5 := Lib.hid (show SP P g cap ts nest (.ok (stepL l)) W5 from hs)
      have G5 := Lib.hid (grown_trans S13.out (grown_trans (grown_of E4.out) hg))
      have P5g := Lib.hid hg
      have N5 := Lib.hid (N4.out.grown hg HP.out.1)
      have T5 := Lib.hid (T4.out.grown hg (Nat.ne_of_gt hP3.out.1))
      have hl5 := Lib.hid (show W2.heap.size < W5.heap.size from T5.out.lt)
      clear hs hg C5 t0 t1 t2 t3 n0 n1 n2 n3 n4 e0 e1 e2 e3 e4 hsz
      unfold tkV
      clear k6 k5 k4 k2 k1
      try clear k3
      have C6 := Lib.hid (pis_s P g cap ts nest (.ok (stepL l)) ⟨#[40]⟩ W5 P5.out)
      go_wp2_with fail
      (with_reducible refine Calls.mono C6.out ?_)
      rintro e W6 ⟨b, rfl, hb, hbt⟩
      have HB := Lib.hid (show b = isT tOpen (stepL l) from hbt _ rfl)
      have P6 := Lib.hid (P5.out.below hb)
      have N6 := Lib.hid (N5.out.below hb)
      have T6 := Lib.hid (T5.out.below hb)
      have G6 := Lib.hid (pgrown_below G5.out (hb.mono G5.out.size))
      clear hb hbt C6
      obtain ⟨⟨t0, t1, t2, t3⟩, -⟩ := T6.out.cells
      have hl6 : W2.heap.size < W6.heap.size := T6.out.lt
      cases b
      case false =>
        have hX := Lib.hid (show X = .ok (mkN 10 T.text 0 [] T.pos, stepL l) by rw [HR.out, if_neg (by rw [← HB.out]; decide)])
        have HD := Lib.hid (show depthN (mkN 10 T.text 0 [] T.pos) ≤ 100 ∧ ∀ w, (mkN 10 T.text 0 [] T.pos).lies (fun _ => False) w none 0 from ⟨by rw [depth_leaf]; decide, fun w => lies_leaf rfl HT0.out.2.2 rfl HT0.out.2.1⟩)
        have CM := Lib.hid (pmade_s P g cap ts nest (.ok (stepL l)) 10 T.text 0 [] T.pos none 0 0 rfl W6 hn P6.out fun r hr => ⟨Nat.le_trans HD.out.1 (by decide), _, fun b hb => hb.elim, HD.out.2 W6⟩)
        go_wp2_with fail
        (with_reducible refine Calls.mono CM.out ?_)
        rintro e W9 ⟨rfl, hs, hg⟩
        have P9 := Lib.hid hs
        have G9 := Lib.hid (grown_trans G6.out hg)
        have N9 := Lib.hid (N6.out.grown hg HP.out.1)
        obtain ⟨⟨z0, z1, z2, z3, z4⟩, ⟨f0, f1, f2, f3, f4⟩⟩ := N9.out.cells
        have hsz : w.heap.size < W9.heap.size := N9.out.lt
        clear hs CM t0 t1 t2 t3
        rw [madeX_low HD.out.1] at P9; clear hg
        rw [show (mkN 10 T.text 0 [] T.pos).val none 0 = .agg #[.int .i64 10, .string ⟨List.toArray T.text⟩, .int .i64 0, .slice none 0 0, .int .i64 T.pos] from rfl]
        go_wp2_with fail
        refine bodyPost_ret (v := (mkN 10 T.text 0 [] T.pos).val none 0) (by simp [results, Tryz.results210, go_sem, Nd.val, mkN, Nd.kind, Nd.text, Nd.n, Nd.kids, Nd.place, z0, z1, z2, z3, z4]) rfl ?_
        rw [hX.out]
        refine RdP.fin P9.out G9.out HP.out (Nat.le_refl _) fun t' r' hx => ?_
        cases hx
        exact ⟨rfl, ⟨_, fun c hc => hc.elim, HD.out.2 W9⟩, HD.out.1⟩
      case true =>
        obtain ⟨y, hy⟩ : ∃ y, y = rd (.args []) nest (stepL (stepL l)) := ⟨_, rfl⟩
        have hX := Lib.hid (show X = y.then fun a r => made (mkN 11 T.text 0 a.kids T.pos) r by rw [HR.out, if_pos HB.out.symm, hy])
        have C7 := Lib.hid (pargs_any P g cap ts he (stepL l) (fun r hr => HEx.out r (Nat.lt_of_lt_of_le hr (stepL_le l))) nest W6 hn P6.out HB.out.symm)
        rw [← hy] at C7
        clear hy
        go_wp2_with fail
        (with_reducible refine Calls.mono C7.out ?_)
        rintro e W7 ⟨ks, v, cp, rfl, hs, hg, hk⟩
        have P7 := Lib.hid hs
        have G7 := Lib.hid (grown_trans G6.out hg)
        have N7 := Lib.hid (N6.out.grown hg HP.out.1)
        have T7 := Lib.hid (T6.out.grown hg (Nat.ne_of_gt hP3.out.1))
        have HK := Lib.hid hk
        have HL := Lib.hid (show w.heap.size < W6.heap.size from N6.out.lt)
        clear hs hg hk C7 t0 t1 t2 t3
        have HD := Lib.hid (show ∀ r, outX y = .ok r → depthN (mkN 11 T.text 0 ks T.pos) ≤ 101 ∧ (mkN 11 T.text 0 ks T.pos).lies (Fr W6.heap.size W7.heap.size) W7 v cp from fun r hr => by
          obtain ⟨t', ht'⟩ := out_inv hr
          obtain ⟨-, ⟨h1, h2, h3⟩, h4, h5⟩ := HK.out t' r ht'
          exact ⟨by rw [depth_mk]; omega, Nd.lies.mk' rfl (by have := HT0.out.2.2; show T.text.toArray.size ≤ maxLen; unfold maxLen; simp; omega) rfl HT0.out.2.1 h2 h3 h5⟩)
        have CM := Lib.hid (pmade_s P g cap ts nest (outX y) 11 T.text 0 ks T.pos v ks.length cp rfl W7 hn P7.out fun r hr => ⟨(HD.out r hr).1, _, fun b hb => hb.2, (HD.out r hr).2⟩)
        obtain ⟨⟨t0, t1, t2, t3⟩, -⟩ := T7.out.cells
        have hl7 : W2.heap.size < W7.heap.size := T7.out.lt
        go_wp2_with fail
        (with_reducible refine Calls.mono CM.out ?_)
        rintro e W9 ⟨rfl, hs, hg⟩
        have P9 := Lib.hid hs
        have G9 := Lib.hid (grown_trans G7.out hg)
        have N9 := Lib.hid (N7.out.grown hg HP.out.1)
        obtain ⟨⟨z0, z1, z2, z3, z4⟩, ⟨f0, f1, f2, f3, f4⟩⟩ := N9.out.cells
        have hsz : w.heap.size < W9.heap.size := N9.out.lt
        clear hs CM t0 t1 t2 t3
        have HG9 := Lib.hid hg; clear hg
        rw [show (mkN 11 T.text 0 ks T.pos).val v cp = .agg #[.int .i64 11, .string ⟨List.toArray T.text⟩, .int .i64 0, .slice v ks.length cp, .int .i64 T.pos] from rfl]
        go_wp2_with fail
        refine bodyPost_ret (v := (mkN 11 T.text 0 ks T.pos).val v cp) (by simp [results, Tryz.results210, go_sem, Nd.val, mkN, Nd.kind, Nd.text, Nd.n, Nd.kids, Nd.place, z0, z1, z2, z3, z4]) rfl ?_
        have hX' : X = goX (outX y) (made (mkN 11 T.text 0 ks T.pos)) := by
          rw [hX.out]
          cases hy : y with
          | error e => rfl
          | ok p =>
            obtain ⟨t', r⟩ := p
            show made (mkN 11 T.text 0 t'.kids T.pos) r = made (mkN 11 T.text 0 ks T.pos) r
            rw [(HK.out t' r hy).1]
        have hO : outX X = madeX (mkN 11 T.text 0 ks T.pos) (outX y) := by rw [hX', out_made]
        refine RdP.fin (by rw [hO]; exact P9.out) G9.out HP.out (Nat.le_refl _) fun t' r' hx => ?_
        rw [hX'] at hx
        obtain ⟨e1, e2, e3⟩ := is_made _ _ hx
        have hp6 := P6.out.blocks.1
        exact ⟨e1, ⟨_, fun c hc => ⟨fun e => by subst e; have := hc.1; have := HL.out; omega, by have := hc.1; have := HL.out; omega, Nat.lt_of_lt_of_le hc.2 HG9.out.size⟩, lies_move (HD.out r' e2).2 ((KeepsV.refl _ _).grown HG9.out fun b hb => ⟨hb.2, fun e => by subst e; have := hb.1; omega⟩) fun b hb => hb⟩, e3⟩
  case paren =>
    have k6 : (T.kind == 6) = false := by rw [hk]; rfl
    have k5 : (T.kind == 5) = false := by rw [hk]; rfl
    have k4 : (T.kind == 4) = false := by rw [hk]; rfl
    have k2 : (T.kind == 2) = false := by rw [hk]; rfl
    have k1 : (T.kind == 1) = false := by rw [hk]; rfl
    have k3 : (T.kind == 3) = false := by rw [hk]; rfl
    have k8 : (T.kind == 8) = true := by rw [hk]; rfl
    have x_yes : (T.text == [116, 114, 117, 101]) = false := by rw [ht]; rfl
    have x_no : (T.text == [102, 97, 108, 115, 101]) = false := by rw [ht]; rfl
    have x_feed : (T.text == [102, 101, 101, 100]) = false := by rw [ht]; rfl
    have x_pick : (T.text == [112, 105, 99, 107]) = false := by rw [ht]; rfl
    have x_paren : (T.text == [40]) = true := by rw [ht]; rfl
    have HR := Lib.hid (show X = (rd .expr nest (stepL l)).then fun x r => wantT tShut r fun r => .ok (x, r) by rw [HX.out, atom_paren (HT.out ▸ HTz.out) (HT.out ▸ hk) (HT.out ▸ ht)])
    have HLn := Lib.hid (show (stepL l).length < l.length from by have := isT_len (is_of (l := l) (.inr (HT.out ▸ hk)) (HT.out ▸ ht)); omega)
    clear hk ht
    have C5 := Lib.hid (pstep_s P g cap ts nest (.ok l) W4 P4.out he)
    go_wp2_with fail
    (with_reducible refine Calls.mono C5.out ?_)
    rintro e W5 ⟨S, rfl, hs, hg, -⟩
    have P5 := Lib.hid (show SP P g cap ts nest (.ok (stepL l)) W5 from hs)
    have G5 := Lib.hid (grown_trans S13.out (grown_trans (grown_of E4.out) hg))
    have P5g := Lib.hid hg
    have N5 := Lib.hid (N4.out.grown hg HP.out.1)
    have T5 := Lib.hid (T4.out.grown hg (Nat.ne_of_gt hP3.out.1))
    have hl5 := Lib.hid (show W2.heap.size < W5.heap.size from T5.out.lt)
    clear hs hg C5 t0 t1 t2 t3 n0 n1 n2 n3 n4 e0 e1 e2 e3 e4 hsz
    unfold tkV
    clear k6 k5 k4 k2 k1 k3 k8 x_yes x_no x_feed x_pick x_paren
    have B5 := Lib.hid (B4.out.grown P5g.out (Nat.ne_of_gt hP3.out.2.2.1))
    obtain ⟨x, hx⟩ : ∃ x, x = rd .expr nest (stepL l) := ⟨_, rfl⟩
    have C6 := Lib.hid (HEx.out (stepL l) HLn.out nest W5 hn P5.out)
    rw [← hx] at HR C6
    clear hx
    go_wp2_with fail
    (with_reducible refine Calls.mono C6.out ?_)
    rintro e W6 ⟨t, a, cp, rfl, hs, hg, hk⟩
    have HK := Lib.hid hk
    have G6 := Lib.hid (grown_trans G5.out hg)
    have N6 := Lib.hid (N5.out.grown hg HP.out.1)
    have B6 := Lib.hid (B5.out.grown hg (Nat.ne_of_gt hP3.out.2.2.1))
    have P6 := Lib.hid hs
    obtain ⟨⟨n0, n1, n2, n3, n4⟩, ⟨f0, f1, f2, f3, f4⟩⟩ := B6.out.cells
    have hl6 : W3.heap.size < W6.heap.size := B6.out.lt
    have HL5 := Lib.hid (show W3.heap.size < W5.heap.size from B5.out.lt)
    clear hs hg hk C6
    obtain ⟨W7, hW7⟩ : ∃ W, W = put5 W6 W3.heap.size t a cp := ⟨_, rfl⟩
    have hne : w.heap.size ≠ W3.heap.size := by have := hLT.out; omega
    have N7 := Lib.hid (show NBox w.heap.size nd0 none 0 W7 from hW7 ▸ N6.out.oput hne t a cp)
    have B7 := Lib.hid (show NBox W3.heap.size t a cp W7 from hW7 ▸ B6.out.put t a cp)
    have P7 := Lib.hid (show SP P g cap ts nest (outX x) W7 from hW7 ▸ P6.out.put (Nat.ne_of_gt hP3.out.2.2.1) (Nat.ne_of_gt hP3.out.2.2.2) t a cp)
    have G7 := Lib.hid (show w.grownBy W7 (some P) from hW7 ▸ grown_put G6.out (by have := hLT.out; omega) t a cp)
    have C8 := Lib.hid (pwant_any P g cap ts nest (outX x) ⟨#[41]⟩ W7 hn P7.out he)
    have hW7' := hW7
    unfold put5 at hW7'
    unfold Nd.val
    go_wp2_with fail
    rw [← hW7']
    have HW7 := Lib.hid hW7
    clear hW7 hW7' n0 n1 n2 n3 n4 f0 f1 f2 f3 f4 hl6
    (with_reducible refine Calls.mono C8.out ?_)
    rintro e W9 ⟨rfl, hs, hg⟩
    have P9 := Lib.hid (show SP P g cap ts nest (wantX tShut (outX x)) W9 from hs)
    have G9 := Lib.hid (grown_trans G7.out hg)
    have N9 := Lib.hid (N7.out.grown hg HP.out.1)
    have HG9 := Lib.hid hg
    obtain ⟨⟨n0, n1, n2, n3, n4⟩, -⟩ := (B7.out.grown hg (Nat.ne_of_gt hP3.out.2.2.1)).cells
    obtain ⟨⟨z0, z1, z2, z3, z4⟩, ⟨f0, f1, f2, f3, f4⟩⟩ := N9.out.cells
    have hsz : w.heap.size < W9.heap.size := N9.out.lt
    clear hs hg C8
    go_wp2_with fail
    refine bodyPost_ret (v := t.val a cp) (by simp [results, Tryz.results210, go_sem, Nd.val, Nd.kind, Nd.text, Nd.n, Nd.kids, Nd.place, z0, z1, z2, z3, z4]) rfl ?_
    have hX : X = goX (wantX tShut (outX x)) (fun r => .ok (t, r)) := by
      rw [HR.out, then_go (t := t) (fun t' r h => (HK.out t' r h).1), want_go]
    refine RdP.fin (by rw [hX, out_some]; exact P9.out) G9.out HP.out (Nat.le_refl _) fun t' r' hx => ?_
    rw [hX] at hx
    obtain ⟨r0, e1, e2⟩ := go_inv hx
    cases e2
    obtain ⟨r1, e3, -, -⟩ := want_inv e1
    obtain ⟨t2, e4⟩ := out_inv e3
    obtain ⟨rfl, hl, hd⟩ := HK.out t2 r1 e4
    have hp5 := P5.out.blocks.1
    have hsz6 : W6.heap.size = W7.heap.size := by rw [HW7.out, size_put]
    have k1 : KeepsV (Fr W5.heap.size W6.heap.size) W6 W7 := by
      rw [HW7.out]
      exact (KeepsV.refl _ W6).put (fun b hb e => by subst e; have := hb.1; have := HL5.out; omega) _ _ _
    have h9 := HG9.out.size
    have hlt := hLT.out
    exact ⟨rfl, ⟨_, fun c hc => ⟨fun e => by subst e; have := hc.1; have := HL5.out; omega, by have := hc.1; have := HL5.out; omega, by have := hc.2; omega⟩, lies_move hl (k1.grown HG9.out fun b hb => ⟨by have := hb.2; omega, fun e => by subst e; have := hb.1; omega⟩) fun b hb => hb⟩, hd⟩
  case none =>
    have k6 : (T.kind == 6) = false := beq_eq_false_iff_ne.2 hk.1
    have k5 : (T.kind == 5) = false := beq_eq_false_iff_ne.2 hk.2.1
    have k4 : (T.kind == 4) = false := beq_eq_false_iff_ne.2 hk.2.2.1
    have k1 : (T.kind == 1) = false := beq_eq_false_iff_ne.2 hk.2.2.2.1
    have k3 : (T.kind == 3) = false := beq_eq_false_iff_ne.2 hk.2.2.2.2
    have hX := Lib.hid (show X = .error (74, T.pos) by rw [HX.out, atom_none (HT.out ▸ HTz.out) (HT.out ▸ hk) (HT.out ▸ h2) (HT.out ▸ h8), HT.out])
    obtain ⟨i, -, hp⟩ := P4.out.ok
    have C5 := Lib.hid (pfail_any P g cap ts i nest W4 74 T.pos hp)
    clear hp
    have q2 : ((T.kind == 2) = true ∧ (T.text == [116, 114, 117, 101]) = false ∧ (T.text == [102, 97, 108, 115, 101]) = false ∧ (T.text == [102, 101, 101, 100]) = false ∧ (T.text == [112, 105, 99, 107]) = false) ∨ (T.kind == 2) = false := by
      by_cases k : T.kind = 2
      · exact .inl ⟨by rw [k]; rfl, beq_eq_false_iff_ne.2 (h2 k).1, beq_eq_false_iff_ne.2 (h2 k).2.1, beq_eq_false_iff_ne.2 (h2 k).2.2.1, beq_eq_false_iff_ne.2 (h2 k).2.2.2⟩
      · exact .inr (beq_eq_false_iff_ne.2 k)
    have q8 : ((T.kind == 8) = true ∧ (T.text == [40]) = false) ∨ (T.kind == 8) = false := by
      by_cases k : T.kind = 8
      · exact .inl ⟨by rw [k]; rfl, beq_eq_false_iff_ne.2 (h8 k)⟩
      · exact .inr (beq_eq_false_iff_ne.2 k)
    clear hk h2 h8
    rcases q2 with ⟨k2, x_yes, x_no, x_feed, x_pick⟩ | k2 <;> rcases q8 with ⟨k8, x_paren⟩ | k8
    all_goals
      go_wp2_with fail
      (with_reducible refine Calls.mono C5.out ?_)
      rintro e W9 ⟨rfl, hp9, hg⟩
      have P9 := Lib.hid (show SP P g cap ts nest (.error (74, T.pos)) W9 from SP.of_error hp9 (by decide) (Int.le_refl _) (by omega))
      have G9 := Lib.hid (grown_trans S13.out (grown_trans (grown_of E4.out) hg))
      have N9 := Lib.hid (N4.out.grown hg HP.out.1)
      have B9 := Lib.hid (B4.out.grown hg (Nat.ne_of_gt hP3.out.2.2.1))
      clear hp9 hg C5 t0 t1 t2 t3 n0 n1 n2 n3 n4 e0 e1 e2 e3 e4 hsz
      obtain ⟨⟨n0, n1, n2, n3, n4⟩, -⟩ := B9.out.cells
      obtain ⟨⟨z0, z1, z2, z3, z4⟩, ⟨f0, f1, f2, f3, f4⟩⟩ := N9.out.cells
      have hsz : w.heap.size < W9.heap.size ∧ W3.heap.size < W9.heap.size := ⟨N9.out.lt, B9.out.lt⟩
      go_wp2_with fail
      refine bodyPost_ret (v := (mkN 0 [] T.n [] T.pos).val none 0) (by simp [results, Tryz.results210, go_sem, Nd.val, mkN, Nd.kind, Nd.text, Nd.n, Nd.kids, Nd.place, z0, z1, z2, z3, z4]) rfl ?_
      rw [hX.out]
      exact RdP.fin (x := .error (74, T.pos)) P9.out G9.out HP.out (Nat.le_refl _) (fun _ _ h => by cases h)

end Go.Proofs.YtcndknkdhlmdnaaGreatDoor
