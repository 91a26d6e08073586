/-
  Texts that the statements' proofs rest on, one behind another: ParT, ParU, ParV, ShownW.
-/
import Derived.Test.YtcndknkdhlmdnaaGreatDoorM29
import Derived.Test.YtcndknkdhlmdnaaGreatDoorM12
import Derived.Test.YtcndknkdhlmdnaaGreatDoorM23
import Derived.Test.YtcndknkdhlmdnaaGreatDoorM24

/-
  usanceref07's parser: what the scanner makes true of its tokens (no program in sight).
-/
namespace Go.Proofs.YtcndknkdhlmdnaaGreatDoor
open Go.RowKit
set_option maxRecDepth 100000

/-- a token as scanning makes it -/
structure TkG (t : Tk) : Prop where
  n : -1000000000000000 ≤ t.n ∧ t.n ≤ 1000000000000000
  len : t.text.length ≤ 49
  z : TkZ t
theorem tkG_plain {k n p : Int} {s : List UInt8} (h8 : k ≠ 8) (h2 : k ≠ 2) (h4 : k = 4 → n = 0) (hn : -1000000000000000 ≤ n ∧ n ≤ 1000000000000000) (hs : s.length ≤ 49) : TkG ⟨k, s, n, p⟩ :=
  ⟨hn, hs, ⟨fun h => by rcases h with h | h; exact h4 h; exact absurd h h2, fun h => absurd h h8, fun h => absurd h h2⟩⟩
theorem tkG_sign {s : List UInt8} {p : Int} (hs : s.length ≤ 2) : TkG ⟨8, s, 0, p⟩ :=
  ⟨⟨by show (-1000000000000000 : Int) ≤ 0; decide, by show (0 : Int) ≤ 1000000000000000; decide⟩, by show s.length ≤ 49; omega, ⟨fun _ => rfl, fun _ => ⟨fun e => by (have : s = tTrue := e); subst this; exact absurd hs (by decide), fun e => by (have : s = tFalse := e); subst this; exact absurd hs (by decide), fun e => by (have : s = tFeed := e); subst this; exact absurd hs (by decide), fun e => by (have : s = tPick := e); subst this; exact absurd hs (by decide)⟩, fun h => absurd h (by show ¬ (8 : Int) = 2; decide)⟩⟩
theorem small_not (c : UInt8) (h : smC c = true) : c ≠ 40 := by
  rintro rfl; exact absurd h (by decide)
theorem named_good {c : UInt8} {r : List UInt8} {pos : Int} {t : Tk} {n : Nat} (hc : smC c = true) (h : namedS (c :: r) pos = .ok (t, n)) : TkG t ∧ t.pos = pos := by
  unfold namedS at h
  simp only at h
  have h1 : 1 ≤ spanL (c :: r) := by show 1 ≤ (if smC c = true then 1 + (r.takeWhile inC).length else 0); rw [if_pos hc]; omega
  obtain ⟨m, hm⟩ : ∃ m, spanL (c :: r) = m + 1 := ⟨spanL (c :: r) - 1, by omega⟩
  split at h
  · split at h
    · cases h
    · rename_i hq
      cases h
      refine ⟨tkG_plain (by decide) (by decide) (fun e => rfl) (by decide) ?_, rfl⟩
      rw [List.length_append, List.length_cons]
      have a1 := List.length_take_le (spanL (c :: r)) (c :: r)
      have a2 := List.length_take_le (spanL ((c :: r).drop (spanL (c :: r) + 1))) ((c :: r).drop (spanL (c :: r) + 1))
      omega
  · split at h
    · cases h
    · rename_i hq
      cases h
      have hl : ((c :: r).take (spanL (c :: r))).length ≤ 49 := by
        have a1 := List.length_take_le (spanL (c :: r)) (c :: r)
        omega
      split
      · refine ⟨⟨by show (-1000000000000000 : Int) ≤ 0 ∧ (0 : Int) ≤ 1000000000000000; decide, hl, ⟨fun _ => rfl, fun e => absurd e (by show ¬ (2 : Int) = 8; decide), fun _ e => ?_⟩⟩, rfl⟩
        replace e : (c :: r).take (spanL (c :: r)) = [40] := e
        rw [hm, List.take_succ_cons] at e
        exact small_not c hc (List.cons.inj e).1
      · exact ⟨tkG_plain (by decide) (by decide) (fun e => rfl) (by decide) hl, rfl⟩
theorem numU_pos {l : List UInt8} {v : Int} (h : numU l = some v) : 0 ≤ v := by
  unfold numU at h
  simp only at h
  split at h
  · rename_i hq
    cases h
    obtain ⟨h1, h2, h3, h4⟩ := hq
    have hw : (l.takeWhile dgC).all dgC = true := List.all_takeWhile
    have ht : (l.drop (l.takeWhile dgC).length).tail.all dgC = true := by
      cases hd : l.drop (l.takeWhile dgC).length with
      | nil => rfl
      | cons c p =>
        rw [hd] at h4
        unfold partOk at h4
        simp only [Bool.and_eq_true] at h4
        exact h4.2.2
    refine (val_le (n := (l.takeWhile dgC ++ (l.drop (l.takeWhile dgC).length).tail ++ List.replicate (6 - (l.drop (l.takeWhile dgC).length).tail.length) 48).length) ?_ (Nat.le_refl _)).1
    rw [List.all_append, List.all_append, hw, ht, List.all_eq_true.2 fun x hx => by rw [List.eq_of_mem_replicate hx]; rfl]
    rfl
  · cases h
theorem numP_bd {l : List UInt8} {v : Int} (h : numP l = some v) : -1000000000000000 ≤ v ∧ v ≤ 1000000000000000 := by
  unfold numP at h
  split at h
  · split at h
    · rename_i n hn
      have := numU_pos hn
      split at h
      · cases h
      · cases h; omega
    · cases h
  · split at h
    · rename_i n hn
      have := numU_pos hn
      split at h
      · cases h
      · cases h; omega
    · cases h
theorem dayP_bd {l : List UInt8} {v : Int} (h : dayP l = some v) : 0 ≤ v ∧ v ≤ 73048 := by
  unfold dayP at h
  split at h
  · rename_i hq
    cases h
    exact Cal.num_bd hq.2.2
  · cases h
theorem tok_good {c : UInt8} {r : List UInt8} {pos : Int} {t : Tk} {n : Nat} (h : tokS c r pos = .ok (t, n)) : TkG t ∧ t.pos = pos := by
  unfold tokS at h
  split at h
  · rename_i hs; exact named_good hs h
  split at h
  · unfold numS at h
    split at h
    · split at h
      · cases h
      · rename_i v hv
        have := dayP_bd hv
        split at h
        · cases h; exact ⟨tkG_plain (by decide) (by decide) (fun e => by cases e) (by omega) (by decide), rfl⟩
        · cases h
    · split at h
      · cases h
      · rename_i v hv
        have := numP_bd hv
        split at h
        · cases h; exact ⟨tkG_plain (by decide) (by decide) (fun e => by cases e) (by omega) (by decide), rfl⟩
        · cases h
  split at h
  · unfold quotS at h
    split at h
    · cases h
    · split at h
      · rename_i hn
        cases h
        obtain ⟨c, r, -, -, -, hl⟩ := name_small hn
        exact ⟨tkG_plain (by decide) (by decide) (fun e => by cases e) (by decide) (by omega), rfl⟩
      · cases h
  split at h
  · unfold curS at h
    split at h
    · cases h
      refine ⟨tkG_plain (by decide) (by decide) (fun e => rfl) (by decide) ?_, rfl⟩
      have := List.length_take_le 3 (c :: r)
      omega
    · cases h
  · unfold markS at h
    split at h
    · cases h; exact ⟨tkG_sign (by decide), rfl⟩
    · split at h
      · cases h; exact ⟨tkG_sign (by show [c].length ≤ 2; simp), rfl⟩
      · cases h
theorem Ends.cons {t : Tk} {ts : List Tk} (h : Ends ts) (hne : ts ≠ []) : Ends (t :: ts) := by
  intro j hj hk
  have hp := List.length_pos_iff.2 hne
  cases j with
  | zero => rw [List.length_cons]; omega
  | succ j =>
    have := h j (by rw [List.length_cons] at hj; omega) hk
    rw [List.length_cons]; omega
theorem scan_good : ∀ (l : List UInt8) (pos : Int) (k s : Nat) (ts : List Tk), scanS l pos k s = .ok ts → (∀ t ∈ ts, TkG t ∧ pos ≤ t.pos ∧ t.pos ≤ pos + l.length) ∧ Ends ts ∧ ts ≠ []
  | [], pos, k, _, ts, h => by
    unfold scanS at h
    cases h
    refine ⟨fun t ht => ?_, fun j hj hk => ?_, by simp⟩
    · obtain rfl := List.mem_singleton.1 ht
      exact ⟨tkG_plain (by decide) (by decide) (fun e => rfl) (by decide) (by decide), Int.le_refl _, by simp⟩
    · have : j = 0 := by simp at hj; omega
      subst this; exact absurd (show (0 : Int) = 0 from rfl) hk
  | c :: r, pos, k, s + 1, ts, h => by
    unfold scanS at h
    obtain ⟨h1, h2, h3⟩ := scan_good r (pos + 1) k s ts h
    refine ⟨fun t ht => ?_, h2, h3⟩
    obtain ⟨a, b, d⟩ := h1 t ht
    exact ⟨a, by omega, by rw [List.length_cons]; omega⟩
  | c :: r, pos, k, 0, ts, h => by
    have go : ∀ s, scanS r (pos + 1) k s = .ok ts → (∀ t ∈ ts, TkG t ∧ pos ≤ t.pos ∧ t.pos ≤ pos + (c :: r).length) ∧ Ends ts ∧ ts ≠ [] := fun s hs => by
      obtain ⟨h1, h2, h3⟩ := scan_good r (pos + 1) k s ts hs
      refine ⟨fun t ht => ?_, h2, h3⟩
      obtain ⟨a, b, d⟩ := h1 t ht
      exact ⟨a, by omega, by rw [List.length_cons]; omega⟩
    unfold scanS at h
    split at h
    · exact go 0 h
    split at h
    · exact go _ h
    split at h
    · cases h
    · rename_i t n ht
      split at h
      · cases h
      · rename_i hk
        split at h
        · cases h
        · rename_i us hus
          cases h
          obtain ⟨h1, h2, h3⟩ := scan_good r (pos + 1) (k + 1) _ us hus
          refine ⟨fun u hu => ?_, h2.cons h3, by simp⟩
          rcases List.mem_cons.1 hu with rfl | hu
          · obtain ⟨a, b⟩ := tok_good ht
            exact ⟨a, by omega, by rw [List.length_cons]; omega⟩
          · obtain ⟨a, b, d⟩ := h1 u hu
            exact ⟨a, by omega, by rw [List.length_cons]; omega⟩
/-- what a scan makes is well formed -/
theorem scanT_good {l : List UInt8} {ts : List Tk} (h : scanT l = .ok ts) : (∀ t ∈ ts, TkOk t) ∧ (∀ t ∈ ts, TkZ t) ∧ Ends ts ∧ ts ≠ [] := by
  unfold scanT at h
  split at h
  · cases h
  · rename_i hl
    obtain ⟨h1, h2, h3⟩ := scan_good l 0 0 0 ts h
    refine ⟨fun t ht => ?_, fun t ht => (h1 t ht).1.z, h2, h3⟩
    obtain ⟨⟨hn, hs, -⟩, hp, hq⟩ := h1 t ht
    exact ⟨WalkArith.wf_i64 (by omega), WalkArith.wf_i64 (by omega), by omega⟩

end Go.Proofs.YtcndknkdhlmdnaaGreatDoor

/-
  usanceref07's parser: all its parts together.
-/
namespace Go.Proofs.YtcndknkdhlmdnaaGreatDoor
open Go.RowKit
set_option maxRecDepth 100000

/-- what all parts do of these tokens -/
structure AllC (P g cap : Nat) (ts l : List Tk) : Prop where
  e : CE P g cap ts l
  c : ∀ lv, lv ≤ 3 → CC P g cap ts lv l
  n : CN P g cap ts l
  u : CU P g cap ts l
theorem pall_any (P g cap : Nat) (ts : List Tk) (he : Ends ts) (htk : ∀ t ∈ ts, TkOk t) (htz : ∀ t ∈ ts, TkZ t) : ∀ (N : Nat) (l : List Tk), l.length < N → AllC P g cap ts l
  | 0, l, h => absurd h (Nat.not_lt_zero _)
  | N + 1, l, h => by
    have ih : ∀ r, r.length < l.length → AllC P g cap ts r := fun r hr => pall_any P g cap ts he htk htz N r (by omega)
    have q : ∀ lv r, lv ≤ 3 → AllC P g cap ts r → CL P g cap ts lv r := fun lv r hlv a => plower_any P g cap ts lv hlv r (fun _ => a.c 1 (by decide)) (fun _ => a.n) (fun _ => a.c 3 (by decide)) (fun _ => a.u)
    have hA := patom_any P g cap ts he htk htz l fun r hr => (ih r hr).e
    have hU := punary_any P g cap ts he htk l hA fun ht => (ih _ (by have := isT_len ht; omega)).u
    have hL3 := plower_any P g cap ts 3 (by decide) l (fun h => absurd h (by decide)) (fun h => absurd h (by decide)) (fun h => absurd h (by decide)) (fun _ => hU)
    have hC3 := pchain_any P g cap ts he htk 3 (by decide) l hL3 fun r hr => q 3 r (by decide) (ih r hr)
    have hL2 := plower_any P g cap ts 2 (by decide) l (fun h => absurd h (by decide)) (fun h => absurd h (by decide)) (fun _ => hC3) (fun h => absurd h (by decide))
    have hC2 := pchain_any P g cap ts he htk 2 (by decide) l hL2 fun r hr => q 2 r (by decide) (ih r hr)
    have hN := pnot_any P g cap ts he htk l hC2 (fun r hr => (ih r hr).c 2 (by decide)) fun ht => (ih _ (by have := isT_len ht; omega)).n
    have hL1 := plower_any P g cap ts 1 (by decide) l (fun h => absurd h (by decide)) (fun _ => hN) (fun h => absurd h (by decide)) (fun h => absurd h (by decide))
    have hC1 := pchain_any P g cap ts he htk 1 (by decide) l hL1 fun r hr => q 1 r (by decide) (ih r hr)
    have hL0 := plower_any P g cap ts 0 (by decide) l (fun _ => hC1) (fun h => absurd h (by decide)) (fun h => absurd h (by decide)) (fun h => absurd h (by decide))
    have hC0 := pchain_any P g cap ts he htk 0 (by decide) l hL0 fun r hr => q 0 r (by decide) (ih r hr)
    exact ⟨pexpr_any P g cap ts he htk l hC0 fun r hr => (ih r hr).e, fun lv hlv => by
      have hc : lv = 0 ∨ lv = 1 ∨ lv = 2 ∨ lv = 3 := by omega
      rcases hc with rfl | rfl | rfl | rfl
      · exact hC0
      · exact hC1
      · exact hC2
      · exact hC3, hN, hU⟩
/-- the parser reads an expression -/
theorem pexpr_all (P g cap : Nat) (ts : List Tk) (he : Ends ts) (htk : ∀ t ∈ ts, TkOk t) (htz : ∀ t ∈ ts, TkZ t) (l : List Tk) : CE P g cap ts l := (pall_any P g cap ts he htk htz _ l (Nat.lt_succ_self _)).e

/-! ### a text as an expression -/
/-- what is read must be all that there is -/
def endX (x : Rd) : Except (Int × Int) Nd := match x with
  | .error e => .error e
  | .ok (t, r) => if (hd r).kind = 0 then .ok t else .error (74, (hd r).pos)
def exprR (l : List UInt8) : Except (Int × Int) Nd := match scanT l with
  | .error e => .error e
  | .ok ts => endX (rd .expr 0 ts)
/-- what a reader hands back -/
def TreeP (x : Except (Int × Int) Nd) (w : World) (e : Ending) (w' : World) : Prop :=
  ∃ (t : Nd) (a : Option Addr) (cp : Nat) (f k : Int), e = .returned (.tuple #[t.val a cp, .int .i64 f, .int .i64 k]) ∧ Below w.heap.size w w' ∧ match x with
    | .ok u => u = t ∧ f = 0 ∧ k = 0 ∧ t.lies (Fr w.heap.size w'.heap.size) w' a cp ∧ depthN t ≤ 100
    | .error (c, p) => k = c ∧ f = p ∧ c ≠ 0

end Go.Proofs.YtcndknkdhlmdnaaGreatDoor

/-
  usanceref07: a text as an expression.
-/
namespace Go.Proofs.YtcndknkdhlmdnaaGreatDoor
open Go.RowKit
set_option maxRecDepth 100000

theorem below_grownP {w W : World} {P : Nat} (h : w.grownBy W (some P)) (hP : w.heap.size ≤ P) : Below w.heap.size w W := ⟨h.os, h.tape, h.output, h.size, fun k hk => h.block k hk (fun e => by have := Option.some.inj e; omega)⟩
/-- the parser, as it is made -/
theorem SP.make {g cap : Nat} {ts : List Tk} {base : Nat} {w : World} {T : TypeId} (h : w.ownsRow base T 4 (.slice (some ⟨g, 0, none⟩) ts.length cap) ts.length (tksCells ts)) (hne : ts ≠ []) :
    SP w.heap.size g cap ts 0 (.ok ts) (w.alloc (.cells #[.slice (some ⟨g, 0, none⟩) ts.length cap, .int .i64 0, .int .i64 0, .int .i64 0, .int .i64 0] 106)) := by
  have hg := h.lt g rfl
  have hb := nbelow1 w (.cells #[.slice (some ⟨g, 0, none⟩) ts.length cap, .int .i64 0, .int .i64 0, .int .i64 0, .int .i64 0] 106)
  refine ⟨0, 0, 0, 0, ⟨by show (w.heap.push _)[w.heap.size]? = _; simp, (Toks.of_row h).below hb hg.2, by omega, Nat.lt_of_lt_of_le hg.2 hb.size, ?_, ?_, List.length_pos_iff.2 hne⟩, rfl, rfl, rfl, rfl⟩
  · rcases h.2 with ⟨e, -⟩ | ⟨g', cap2, cur, e, -, -, h1, -⟩
    · cases e
    · cases e; exact h1
  · rcases h.2 with ⟨e, -⟩ | ⟨g', cap2, cur, e, -, -, -, h1, -⟩
    · cases e
    · cases e; exact h1
/-- what was read, or what is wrong, once it is written over the result's cell -/
theorem tree_err {c p : Int} {x : Except (Int × Int) Nd} {w W : World} {P : Nat} (hx : x = .error (c, p)) (hc : c ≠ 0) (h : w.grownBy W (some P)) (hP : w.heap.size ≤ P) : TreeP x w (.returned (.tuple #[nd0.val none 0, .int .i64 p, .int .i64 c])) (put5 W w.heap.size nd0 none 0) := by
  subst hx
  exact ⟨nd0, none, 0, p, c, rfl, below_grownP (grown_put h (Nat.le_refl _) nd0 none 0) hP, rfl, rfl, hc⟩

theorem tree_errd {c p : Int} {x : Except (Int × Int) Nd} {w W : World} {P : Nat} (hx : x = .error (c, p)) (hc : c ≠ 0) (h : w.grownBy W (some P)) (hP : w.heap.size ≤ P) : TreeP x w (.returned (.tuple #[nd0.val none 0, .int .i64 p, .int .i64 c])) (put5 W w.heap.size nd0 none 0).drew := by
  subst hx
  exact ⟨nd0, none, 0, p, c, rfl, bdrew (below_grownP (grown_put h (Nat.le_refl _) nd0 none 0) hP), rfl, rfl, hc⟩
theorem gdrew {w W : World} {r : Option Nat} (h : w.grownBy W r) : w.grownBy W.drew r := ⟨h.os, h.tape, h.output, h.size, h.block⟩
theorem tk_kind (k n p : Int) (s : ByteArray) (w : World) : (Instr.field 39 (.agg #[.int .i64 k, .string s, .int .i64 n, .int .i64 p]) 0).run Tryz.prog w = .ok (.int .i64 k) w := by kernel_rfl
/-- the tree that was read, once it is written over another cell -/
theorem read_lies {u t : Nd} {a : Option Addr} {cp b lo : Nat} {W4 W5 W6 : World} (h : u = t ∧ t.lies (Fr W4.heap.size W5.heap.size) W5 a cp ∧ depthN t ≤ 100) (hW : W6 = put5 W5 b t a cp) (h0 : lo ≤ W4.heap.size) (hb : b < W4.heap.size) :
    u = t ∧ t.lies (Fr lo W6.heap.size) W6 a cp ∧ depthN t ≤ 100 := by
  refine ⟨h.1, lies_move h.2.1 (hW ▸ (KeepsV.refl _ _).put (fun k hk e => by have := hk.1; omega) t a cp) fun k hk => ⟨Nat.le_trans h0 hk.1, ?_⟩, h.2.2⟩
  rw [hW, size_put]
  exact hk.2
theorem tree_ok {u t : Nd} {a : Option Addr} {cp : Nat} {x : Except (Int × Int) Nd} {w W6 W7 : World} {P : Nat} (hx : x = .ok u) (hl : u = t ∧ t.lies (Fr (w.heap.size + 1) W6.heap.size) W6 a cp ∧ depthN t ≤ 100) (hb : Below W6.heap.size W6 W7) (hg : w.grownBy W6 (some P)) (hP : w.heap.size ≤ P) :
    TreeP x w (.returned (.tuple #[t.val a cp, .int .i64 0, .int .i64 0])) (put5 W7 w.heap.size t a cp) := by
  subst hx
  refine ⟨t, a, cp, 0, 0, rfl, below_grownP (grown_put (pgrown_below hg (hb.mono hg.size)) (Nat.le_refl _) t a cp) hP, hl.1, rfl, rfl, ?_, hl.2.2⟩
  refine lies_move hl.2.1 (((show KeepsV _ W6 W7 from fun k hk => hb.block k hk.2)).put (fun k hk e => by have := hk.1; omega) t a cp) fun k hk => ⟨by have := hk.1; omega, ?_⟩
  rw [size_put]
  exact Nat.lt_of_lt_of_le hk.2 hb.size

/-- the same, once it is written over the result's cell -/
theorem tree_put {t : Nd} {a : Option Addr} {cp : Nat} {f k : Int} {x : Except (Int × Int) Nd} {w W1 W2 : World} (hx : match x with
    | .ok u => u = t ∧ f = 0 ∧ k = 0 ∧ t.lies (Fr W1.heap.size W2.heap.size) W2 a cp ∧ depthN t ≤ 100
    | .error (c, p) => k = c ∧ f = p ∧ c ≠ 0) (hb : Below w.heap.size w W2) (hlt : w.heap.size < W1.heap.size) :
    TreeP x w (.returned (.tuple #[t.val a cp, .int .i64 f, .int .i64 k])) (put5 W2 w.heap.size t a cp) := by
  refine ⟨t, a, cp, f, k, rfl, below_grownP (P := w.heap.size) (grown_put (grown_of hb) (Nat.le_refl _) t a cp) (Nat.le_refl _), ?_⟩
  match x, hx with
  | .ok u, hx =>
    refine ⟨hx.1, hx.2.1, hx.2.2.1, lies_move hx.2.2.2.1 ((KeepsV.refl _ _).put (fun k hk e => by have := hk.1; omega) t a cp) fun k hk => ⟨by have := hk.1; omega, ?_⟩, hx.2.2.2.2⟩
    rw [size_put]
    exact hk.2
  | .error (c, p), hx => exact hx

set_option maxHeartbeats 4000000 in
theorem rread_any (s : ByteArray) (w : World) (hs : s.size ≤ maxLen) :
    Calls Tryz.prog 58 #[.string s, .bool false] w (TreeP (exprR s.data.toList) w) := by
  obtain ⟨W1, hW1⟩ : ∃ W, W = w.alloc (.cells #[.int .i64 0, .string ⟨#[]⟩, .int .i64 0, .slice none 0 0, .int .i64 0] 24) := ⟨_, rfl⟩
  have B1 := Lib.hid (show NBox w.heap.size nd0 none 0 W1 from hW1 ▸ NBox.make w nd0 none 0)
  have E1 := Lib.hid (show Below w.heap.size w W1 from hW1 ▸ nbelow1 _ _)
  obtain ⟨X, hX⟩ : ∃ X, X = exprR s.data.toList := ⟨_, rfl⟩
  rw [← hX]
  have C1 := Lib.hid (rScan_any s W1 hs)
  unfold exprR at hX
  generalize hsc : scanT s.data.toList = x at C1 hX
  have HX := Lib.hid hX
  have HSC := Lib.hid hsc
  clear hX hsc hs
  go_enter Tryz.func58, Tryz.ntmps58
  go_wp2_with fail
  rw [← hW1]
  clear hW1
  (with_reducible refine Calls.mono C1.out ?_)
  intro e W2 hsp
  obtain ⟨hb, hsp⟩ := hsp
  have B2 := Lib.hid (B1.out.below hb)
  have G2 := Lib.hid (grown_of (r := some w.heap.size) (E1.out.trans (hb.mono E1.out.size)))
  have HB2 := Lib.hid hb
  clear hb C1
  cases x with
  | error q =>
    obtain ⟨c, p⟩ := q
    obtain ⟨hc, rfl⟩ := hsp
    have ek : (c != 0) = true := bne_iff_ne.2 hc
    have HC := Lib.hid hc
    have HX' := Lib.hid (show X = .error (c, p) from HX.out)
    obtain ⟨⟨z0, z1, z2, z3, z4⟩, ⟨f0, f1, f2, f3, f4⟩⟩ := B2.out.cells
    have hsz : w.heap.size < W2.heap.size := B2.out.lt
    clear hc HX
    go_wp2_with fail
    refine bodyPost_ret (v := .tuple #[nd0.val none 0, .int .i64 p, .int .i64 c]) (by simp [results, Tryz.results58, go_sem, Nd.val, nd0, Nd.kind, Nd.text, Nd.n, Nd.kids, Nd.place, z0, z1, z2, z3, z4]) rfl ?_
    exact tree_err HX'.out HC.out G2.out (Nat.le_refl _)
  | ok ts =>
    obtain ⟨g, cap, rfl, how⟩ := hsp
    obtain ⟨htk, htz, he, hne⟩ := scanT_good HSC.out
    have HTK := Lib.hid htk
    have HTZ := Lib.hid htz
    have HEn := Lib.hid he
    have P3' := Lib.hid (SP.make how hne)
    have hgw := Lib.hid (show w.heap.size < W2.heap.size ∧ W1.heap.size ≤ g ∧ g < W2.heap.size from ⟨B2.out.lt, (how.lt g rfl).1, (how.lt g rfl).2⟩)
    have HW1 := Lib.hid (show w.heap.size < W1.heap.size from B1.out.lt)
    clear htk htz he hne how
    obtain ⟨W3, hW3⟩ : ∃ W, W = W2.alloc (.cells #[.slice (some ⟨g, 0, none⟩) ts.length cap, .int .i64 0, .int .i64 0, .int .i64 0, .int .i64 0] 106) := ⟨_, rfl⟩
    have P3 := Lib.hid (show SP W2.heap.size g cap ts 0 (.ok ts) W3 from hW3 ▸ P3'.out)
    have E3 := Lib.hid (show Below W2.heap.size W2 W3 from hW3 ▸ nbelow1 _ _)
    have hs3 : W3.heap.size = W2.heap.size + 1 := by rw [hW3]; simp
    obtain ⟨W4, hW4⟩ : ∃ W, W = W3.alloc (.cells #[.int .i64 0, .string ⟨#[]⟩, .int .i64 0, .slice none 0 0, .int .i64 0] 24) := ⟨_, rfl⟩
    have N4 := Lib.hid (show NBox W3.heap.size nd0 none 0 W4 from hW4 ▸ NBox.make W3 nd0 none 0)
    have E4 := Lib.hid (show Below W3.heap.size W3 W4 from hW4 ▸ nbelow1 _ _)
    have P4 := Lib.hid (P3.out.below E4.out)
    have B4 := Lib.hid ((B2.out.below E3.out).below E4.out)
    have G4 := Lib.hid (show w.grownBy W4 (some W2.heap.size) from grown_of ((E1.out.trans (HB2.out.mono E1.out.size)).trans ((E3.out.trans (E4.out.mono E3.out.size)).mono (Nat.le_of_lt hgw.out.1))))
    have hne4 := Lib.hid (show (w.heap.size ≠ W2.heap.size ∧ w.heap.size ≠ g) ∧ (W3.heap.size ≠ W2.heap.size ∧ W3.heap.size ≠ g) ∧ w.heap.size ≠ W3.heap.size ∧ W2.heap.size ≠ g by have := hgw.out; have := HW1.out; omega)
    have C5 := Lib.hid (pexpr_all W2.heap.size g cap ts HEn.out HTK.out HTZ.out ts 0 W4 (by decide) P4.out)
    have HXe := Lib.hid (show X = endX (rd .expr 0 ts) from HX.out)
    generalize rd .expr 0 ts = y at C5 HXe
    clear HX P3'
    have HS3 := Lib.hid hs3
    go_upto_region 5 with fail
    rw [← hW3]
    clear hW3 hs3
    go_upto_region 6 with fail
    rw [← hW4]
    clear hW4
    go_wp2_with fail
    (with_reducible refine Calls.mono C5.out ?_)
    rintro e W5 ⟨t, a, cp, rfl, hs, hg, hk⟩
    have HK := Lib.hid hk
    have P5 := Lib.hid hs
    have G5 := Lib.hid (grown_trans G4.out hg)
    have B5 := Lib.hid (B4.out.grown hg hne4.out.1.1)
    have N5 := Lib.hid (N4.out.grown hg hne4.out.2.1.1)
    have HS5 := Lib.hid (show W4.heap.size ≤ W5.heap.size from hg.size)
    clear hs hg hk C5
    obtain ⟨W6, hW6⟩ : ∃ W, W = put5 W5 W3.heap.size t a cp := ⟨_, rfl⟩
    have P6 := Lib.hid (show SP W2.heap.size g cap ts 0 (outX y) W6 from hW6 ▸ P5.out.put hne4.out.2.1.1 hne4.out.2.1.2 t a cp)
    have B6 := Lib.hid (show NBox w.heap.size nd0 none 0 W6 from hW6 ▸ B5.out.oput hne4.out.2.2.1 t a cp)
    have N6 := Lib.hid (show NBox W3.heap.size t a cp W6 from hW6 ▸ N5.out.put t a cp)
    have G6 := Lib.hid (show w.grownBy W6 (some W2.heap.size) from hW6 ▸ grown_put G5.out (by have := hgw.out; have := HS3.out; omega) t a cp)
    obtain ⟨⟨n0, n1, n2, n3, n4⟩, ⟨e0, e1, e2, e3, e4⟩⟩ := N5.out.cells
    have hl5 : W3.heap.size < W5.heap.size := N5.out.lt
    have hW6' := hW6
    unfold put5 at hW6'
    unfold Nd.val
    go_upto_region 9 with fail
    rw [← hW6']
    have HW6 := Lib.hid hW6
    clear hW6 hW6' n0 n1 n2 n3 n4 e0 e1 e2 e3 e4 hl5
    have hpl : W2.heap.size < W6.heap.size := P6.out.blocks.1
    cases hy : y with
    | error q =>
      obtain ⟨c, p⟩ := q
      have P6' := P6.out
      rw [hy] at P6'
      have HX' := Lib.hid (show X = .error (c, p) by rw [HXe.out, hy]; rfl)
      obtain ⟨hc, i, n, hp, -, -⟩ := P6'.error
      obtain ⟨⟨p0, p1, p2, p3, p4⟩, -⟩ := hp.cells
      have ek : (c == 0) = false := beq_eq_false_iff_ne.2 hc
      have ek' : (c != 0) = true := bne_iff_ne.2 hc
      have HC := Lib.hid hc
      obtain ⟨⟨z0, z1, z2, z3, z4⟩, ⟨f0, f1, f2, f3, f4⟩⟩ := B6.out.cells
      have hsz : w.heap.size < W6.heap.size := B6.out.lt
      have hb1 : ¬ w.heap.size = W2.heap.size := hne4.out.1.1
      have hb2 : ¬ W2.heap.size = w.heap.size := fun h => hb1 h.symm
      clear hc hp P6' hy
      go_wp2_with fail
      go_region
      all_goals
        go_wp2_with fail
        refine bodyPost_ret (v := .tuple #[nd0.val none 0, .int .i64 p, .int .i64 c]) (by simp [results, Tryz.results58, go_sem, Nd.val, nd0, Nd.kind, Nd.text, Nd.n, Nd.kids, Nd.place, z0, z1, z2, z3, z4]) rfl ?_
        exact tree_errd HX'.out HC.out G6.out (Nat.le_of_lt hgw.out.1)
    | ok q =>
      obtain ⟨u, r⟩ := q
      have P6' := P6.out
      rw [hy] at P6'
      have HL6 := Lib.hid (read_lies (HK.out u r hy) HW6.out (lo := w.heap.size + 1) (by have := hgw.out; have := E4.out.size; have := HS3.out; omega) N4.out.lt)
      obtain ⟨i, hr, hp⟩ := P6'.ok
      have hT := hd_at hp.pos
      rw [← hr] at hT
      have HPS := Lib.hid hp
      obtain ⟨⟨p0, p1, p2, p3, p4⟩, -⟩ := hp.cells
      have CL := Lib.hid (show ∀ W, PS W2.heap.size g cap ts i 0 0 0 W → Calls Tryz.prog 97 #[.pointer (some ⟨W2.heap.size, 0, none⟩)] W fun e w' => e = .returned (tkV (hd r)) ∧ Below W.heap.size W w' from fun W h => by
        have := plook_any W2.heap.size g cap ts i 0 0 0 W h
        rwa [← hT] at this)
      have HX' := Lib.hid (show X = if (hd r).kind = 0 then .ok u else .error (74, (hd r).pos) by rw [HXe.out, hy]; rfl)
      generalize hd r = T at CL HX'
      have C7 := Lib.hid (CL.out W6 HPS.out)
      have hfd := tk_field T.kind T.n T.pos ⟨T.text.toArray⟩
      have hfk := tk_kind T.kind T.n T.pos ⟨T.text.toArray⟩
      clear P6' hp hr hT hy
      go_wp2_with fail
      (with_reducible refine Calls.mono C7.out ?_)
      rintro e W7 ⟨rfl, hb⟩
      have HB7 := Lib.hid hb
      have HPS7 := Lib.hid (HPS.out.below hb)
      have B7 := Lib.hid (B6.out.below hb)
      have N7 := Lib.hid (N6.out.below hb)
      have G7 := Lib.hid (pgrown_below G6.out (hb.mono G6.out.size))
      clear hb C7 p0 p1 p2 p3 p4 hpl
      obtain ⟨⟨p0, p1, p2, p3, p4⟩, -⟩ := HPS7.out.cells
      have hpl : W2.heap.size < W7.heap.size := HPS7.out.plt
      unfold tkV
      by_cases hk : T.kind = 0
      · have ek : (T.kind != 0) = false := by rw [hk]; rfl
        have HX2 := Lib.hid (show X = .ok u by rw [HX'.out, if_pos hk])
        obtain ⟨⟨n0, n1, n2, n3, n4⟩, -⟩ := N7.out.cells
        obtain ⟨⟨z0, z1, z2, z3, z4⟩, ⟨f0, f1, f2, f3, f4⟩⟩ := B7.out.cells
        have hsz : w.heap.size < W7.heap.size := B7.out.lt
        have hs3' : W3.heap.size < W7.heap.size := N7.out.lt
        clear hk
        go_wp2_with fail
        refine bodyPost_ret (v := .tuple #[t.val a cp, .int .i64 0, .int .i64 0]) (by simp [results, Tryz.results58, go_sem, Nd.val, z0, z1, z2, z3, z4]) rfl ?_
        exact tree_ok HX2.out HL6.out HB7.out G6.out (Nat.le_of_lt hgw.out.1)
      · have ek : (T.kind != 0) = true := bne_iff_ne.2 hk
        have HX2 := Lib.hid (show X = .error (74, T.pos) by rw [HX'.out, if_neg hk])
        clear hk
        have C8 := Lib.hid (CL.out W7 HPS7.out)
        go_wp2_with fail
        (with_reducible refine Calls.mono C8.out ?_)
        rintro e W8 ⟨rfl, hb⟩
        have HPS8 := Lib.hid (HPS7.out.below hb)
        have B8 := Lib.hid (B7.out.below hb)
        have G8 := Lib.hid (pgrown_below G7.out (hb.mono G7.out.size))
        have C9 := Lib.hid (pfail_any W2.heap.size g cap ts i 0 W8 74 T.pos HPS8.out)
        clear hb C8 p0 p1 p2 p3 p4 hpl
        unfold tkV
        go_wp2_with fail
        (with_reducible refine Calls.mono C9.out ?_)
        rintro e W9 ⟨rfl, hp9, hg9⟩
        have B9 := Lib.hid (B8.out.grown hg9 hne4.out.1.1)
        have G9 := Lib.hid (grown_trans G8.out hg9)
        obtain ⟨⟨p0, p1, p2, p3, p4⟩, -⟩ := hp9.cells
        have hpl : W2.heap.size < W9.heap.size := hp9.plt
        obtain ⟨⟨z0, z1, z2, z3, z4⟩, ⟨f0, f1, f2, f3, f4⟩⟩ := B9.out.cells
        have hsz : w.heap.size < W9.heap.size := B9.out.lt
        have hb1 : ¬ w.heap.size = W2.heap.size := hne4.out.1.1
        have hb2 : ¬ W2.heap.size = w.heap.size := fun h => hb1 h.symm
        clear hp9 hg9 C9
        go_wp2_with fail
        go_region
        all_goals
          go_wp2_with fail
          refine bodyPost_ret (v := .tuple #[nd0.val none 0, .int .i64 T.pos, .int .i64 74]) (by simp [results, Tryz.results58, go_sem, Nd.val, nd0, Nd.kind, Nd.text, Nd.n, Nd.kids, Nd.place, z0, z1, z2, z3, z4]) rfl ?_
          exact tree_errd HX2.out (by decide) G9.out (Nat.le_of_lt hgw.out.1)

set_option maxHeartbeats 2000000 in
theorem rExpr7_any (s : ByteArray) (w : World) (hs : s.size ≤ maxLen) :
    Calls Tryz.prog 35 #[.string s] w (TreeP (exprR s.data.toList) w) := by
  obtain ⟨W1, hW1⟩ : ∃ W, W = w.alloc (.cells #[.int .i64 0, .string ⟨#[]⟩, .int .i64 0, .slice none 0 0, .int .i64 0] 24) := ⟨_, rfl⟩
  have B1 := Lib.hid (show NBox w.heap.size nd0 none 0 W1 from hW1 ▸ NBox.make w nd0 none 0)
  have E1 := Lib.hid (show Below w.heap.size w W1 from hW1 ▸ nbelow1 _ _)
  have C1 := Lib.hid (rread_any s W1 hs)
  generalize exprR s.data.toList = x at C1
  go_enter Tryz.func35, Tryz.ntmps35
  go_wp2_with fail
  rw [← hW1]
  clear hW1
  (with_reducible refine Calls.mono C1.out ?_)
  rintro e W2 ⟨t, a, cp, f, k, rfl, hb, hx⟩
  have B2 := Lib.hid (B1.out.below hb)
  have HB2 := Lib.hid hb
  have HX := Lib.hid hx
  clear hb hx C1
  obtain ⟨⟨z0, z1, z2, z3, z4⟩, ⟨f0, f1, f2, f3, f4⟩⟩ := B2.out.cells
  have hsz : w.heap.size < W2.heap.size := B2.out.lt
  unfold Nd.val
  go_wp2_with fail
  refine bodyPost_ret (v := .tuple #[t.val a cp, .int .i64 f, .int .i64 k]) (by simp [results, Tryz.results35, go_sem, Nd.val, z0, z1, z2, z3, z4]) rfl ?_
  exact tree_put HX.out (E1.out.trans (HB2.out.mono E1.out.size)) B1.out.lt

end Go.Proofs.YtcndknkdhlmdnaaGreatDoor

/-
  usancelaw09's shown, walked.
-/
namespace Go.Proofs.YtcndknkdhlmdnaaGreatDoor
open Go.RowKit
set_option maxRecDepth 100000

theorem shown_expr : exprR shownL = .ok shownN := by
  unfold exprR
  rw [shown_scan]
  show endX (rd .expr 0 shownK) = _
  rw [shown_read]
  rfl
theorem shown_short : shortN shownN := by
  refine ⟨by decide, ⟨by decide, ⟨by decide, trivial⟩, ⟨by decide, trivial⟩, trivial⟩, ⟨by decide, trivial⟩, trivial⟩
set_option maxHeartbeats 2000000 in
theorem shown_any (w : World) (he : Env w) (hta : Tab w) : Calls Tryz.prog 14 #[] w fun e w' => e = .returned (.bool true) ∧ Below w.heap.size w w' := by
  have C1 := Lib.hid (rExpr7_any ⟨#[97, 32, 45, 32, 98, 32, 45, 32, 49, 46, 53]⟩ w (by unfold maxLen; decide))
  have HE := Lib.hid he
  have HT := Lib.hid hta
  clear he hta
  go_enter Tryz.func14, Tryz.ntmps14
  go_wp2_with fail
  (with_reducible refine Calls.mono C1.out ?_)
  rintro e w1 ⟨t, a, cp, f, k, rfl, hb, hx⟩
  rw [show exprR (ByteArray.mk #[97, 32, 45, 32, 98, 32, 45, 32, 49, 46, 53]).data.toList = .ok shownN from shown_expr] at hx
  obtain ⟨rfl, rfl, rfl, hl, -⟩ := hx
  have HL := Lib.hid (show shownN.hold w1.heap.size w1 a cp from Nd.lies.hold shownN (lies_move hl (KeepsV.refl _ _) fun b hb => hb.2))
  have HB1 := Lib.hid hb
  obtain ⟨W2, hW2⟩ : ∃ W, W = w1.alloc (.cells #[.int .i64 shownN.kind, .string shownN.text, .int .i64 shownN.n, .slice a shownN.kids.length cp, .int .i64 shownN.place] 24) := ⟨_, rfl⟩
  have N2 := Lib.hid (show NBox w1.heap.size shownN a cp W2 from hW2 ▸ NBox.make w1 shownN a cp)
  have E2 := Lib.hid (show Below w1.heap.size w1 W2 from hW2 ▸ nbelow1 _ _)
  have HX := Lib.hid (show ∀ cur, Below W2.heap.size W2 cur → Env cur ∧ Tab cur ∧ w1.heap.size ≤ cur.heap.size ∧ shownN.hold w1.heap.size cur a cp ∧ NBox w1.heap.size shownN a cp cur from fun cur hc => ⟨((HE.out.below HB1.out).below E2.out).below hc, ((HT.out.below HB1.out).below E2.out).below hc, Nat.le_trans E2.out.size hc.size, HL.out.below (E2.out.trans (hc.mono E2.out.size)), N2.out.below hc⟩)
  have HW2 := Lib.hid (Below.refl W2.heap.size W2)
  have HA := Lib.hid (HB1.out.trans (E2.out.mono HB1.out.size))
  have HAs := Lib.hid (show w.heap.size ≤ W2.heap.size from HA.out.size)
  clear hb hl C1
  have C2 := Lib.hid (sExpr_any shownN a cp w1.heap.size W2 (HX.out _ HW2.out).2.2.2.1 shown_short (HX.out _ HW2.out).2.2.1 (HX.out _ HW2.out).1 (HX.out _ HW2.out).2.1)
  rw [show exprS shownN = [40, 97, 32, 45, 32, 98, 41, 32, 45, 32, 49, 46, 53] from (exprS_ok shown_right).trans shown_form, show exprE shownN = 0 from exprE_ok shown_right] at C2
  obtain ⟨N, hN⟩ : ∃ N, N = shownN := ⟨_, rfl⟩
  have hr := shown_right
  have hm := shown_mod
  have hsh := shown_short
  rw [← hN] at C2 HX hr hm hsh hW2 N2 ⊢
  have HR := Lib.hid hr
  have HM := Lib.hid hm
  have HSH := Lib.hid hsh
  clear hr hm hsh hN HL
  obtain ⟨⟨n0, n1, n2, n3, n4⟩, -⟩ := N2.out.cells
  have hlt : w1.heap.size < W2.heap.size := N2.out.lt
  unfold Nd.val
  go_upto_region 2 with fail
  rw [← hW2]
  clear hW2
  go_wp2_with fail
  (with_reducible refine Calls.mono C2.out ?_)
  rintro e W3 ⟨rfl, hb⟩
  have HW3 := Lib.hid (HW2.out.trans (hb.mono HW2.out.size))
  clear hb C2 n0 n1 n2 n3 n4 hlt
  have C3 := Lib.hid (sRightExpr_any N a cp w1.heap.size W3 (HX.out _ HW3.out).2.2.2.1 HSH.out (HX.out _ HW3.out).2.2.1 (HX.out _ HW3.out).1 (HX.out _ HW3.out).2.1)
  rw [HR.out] at C3
  obtain ⟨⟨n0, n1, n2, n3, n4⟩, -⟩ := (HX.out _ HW3.out).2.2.2.2.cells
  have hlt : w1.heap.size < W3.heap.size := (HX.out _ HW3.out).2.2.2.2.lt
  go_wp2_with fail
  (with_reducible refine Calls.mono C3.out ?_)
  rintro e W4 ⟨rfl, hb⟩
  have HW4 := Lib.hid (HW3.out.trans (hb.mono HW3.out.size))
  clear hb C3 n0 n1 n2 n3 n4 hlt
  have C4 := Lib.hid (sRight_any N a cp w1.heap.size W4 (HX.out _ HW4.out).2.2.2.1 HSH.out (HX.out _ HW4.out).2.2.1 (HX.out _ HW4.out).1 (HX.out _ HW4.out).2.1)
  rw [HM.out] at C4
  obtain ⟨⟨n0, n1, n2, n3, n4⟩, -⟩ := (HX.out _ HW4.out).2.2.2.2.cells
  have hlt : w1.heap.size < W4.heap.size := (HX.out _ HW4.out).2.2.2.2.lt
  go_wp2_with fail
  (with_reducible refine Calls.mono C4.out ?_)
  rintro e W5 ⟨rfl, hb⟩
  have HW5 := Lib.hid (HW4.out.trans (hb.mono HW4.out.size))
  clear hb C4 n0 n1 n2 n3 n4 hlt
  go_wp2_with fail
  go_ret
  exact ⟨rfl, HA.out.trans (HW5.out.mono HAs.out)⟩

end Go.Proofs.YtcndknkdhlmdnaaGreatDoor
