/-
  Texts that the statements' proofs rest on, one behind another: SynB, SynC, ParD, SynD, SynE, SynF, SynG, SynH.
-/
import Derived.Test.YtcndknkdhlmdnaaGreatDoorS04
import Derived.Test.YtcndknkdhlmdnaaGreatDoorS02
import Derived.Test.YtcndknkdhlmdnaaGreatDoorS01

/-
  What places, and what stands behind, make no difference to (no program in sight).
-/
namespace Go.Proofs.YtcndknkdhlmdnaaGreatDoor

mutual
/-- a tree, with its places or without -/
def strN (b : Bool) : Nd → Nd
  | .mk k s n ks p => .mk k s n (strKs b ks) (if b = true then p else 0)
def strKs (b : Bool) : List Nd → List Nd
  | [] => []
  | k :: ks => strN b k :: strKs b ks
end
def strT (b : Bool) (t : Tk) : Tk := ⟨t.kind, t.text, t.n, if b = true then t.pos else 0⟩
theorem strKs_map (b : Bool) : ∀ ks, strKs b ks = ks.map (strN b)
  | [] => by rw [strKs]; rfl
  | k :: ks => by rw [strKs, strKs_map b ks]; rfl
mutual
theorem strN_true : ∀ t, strN true t = t
  | .mk k s n ks p => by rw [strN, strKs_true ks]; rfl
theorem strKs_true : ∀ ks, strKs true ks = ks
  | [] => by rw [strKs]
  | k :: ks => by rw [strKs, strN_true k, strKs_true ks]
end
mutual
theorem depth_str (b : Bool) : ∀ t, depthN (strN b t) = depthN t
  | .mk k s n ks p => by rw [strN, depthN, depthN, depths_str b ks]
theorem depths_str (b : Bool) : ∀ ks, depthKs (strKs b ks) = depthKs ks
  | [] => by rw [strKs]
  | k :: ks => by rw [strKs, depthKs, depthKs, depth_str b k, depths_str b ks]
end
mutual
theorem same_str : ∀ (t u : Nd), sameN t u = true ↔ strN false t = strN false u
  | .mk k s n ks p, u => by
    rw [sameN_eq]
    cases u with
    | mk k' s' n' ks' p' =>
    rw [strN, strN]
    simp only [Nd.kind, Nd.text, Nd.n, Nd.kids, Bool.and_eq_true, beq_iff_eq, Nd.mk.injEq, and_true, Bool.false_eq_true, if_false]
    rw [same_strs ks ks', Lib.toList_data, Lib.toList_data]
    constructor
    · rintro ⟨⟨⟨h1, h2⟩, h3⟩, h4⟩; exact ⟨h1, data_inj h2, h3, h4⟩
    · rintro ⟨h1, h2, h3, h4⟩; exact ⟨⟨⟨h1, by rw [h2]⟩, h3⟩, h4⟩
theorem same_strs : ∀ (l r : List Nd), sameKs l r = true ↔ strKs false l = strKs false r
  | [], r => by
    rw [sameKs, strKs]
    cases r with
    | nil => rw [strKs]; simp
    | cons a r => rw [strKs]; simp
  | a :: l, [] => by rw [sameKs, strKs, strKs]; simp
  | a :: l, c :: r => by rw [sameKs, strKs, strKs, Bool.and_eq_true, same_str a c, same_strs l r, List.cons.injEq]
end

/-- where an expression may end: none of its words or signs stands here -/
def peekT : List (List UInt8) := [tIf, [111, 114], [97, 110, 100], [43], [45], [42], [47], [60], [60, 61], [61], tNot, tOpen, tTrue, tFalse, tFeed, tPick, tComma]
structure Stop (x : List Tk) : Prop where
  kind : (hd x).kind ≠ 6 ∧ (hd x).kind ≠ 5 ∧ (hd x).kind ≠ 4 ∧ (hd x).kind ≠ 1 ∧ (hd x).kind ≠ 3
  word : ∀ w ∈ peekT, isT w x = false
/-- the same tokens ahead of two ends -/
def SimL (b : Bool) (x x' l l' : List Tk) : Prop := ∃ t t' : List Tk, l = t ++ x ∧ l' = t' ++ x' ∧ t.map (strT b) = t'.map (strT b) ∧ ∀ k ∈ t, k.kind ≠ 0
def SimR (b : Bool) (d : Nat) (x x' : List Tk) (r r' : Rd) : Prop := ∀ t l, r = .ok (t, l) → (∃ t' l', r' = .ok (t', l') ∧ strN b t = strN b t' ∧ SimL b x x' l l') ∨ (0 < d ∧ ∃ p, r' = .error (75, p))
section
variable {b : Bool} {d : Nat} {x x' : List Tk}
theorem SimL.cases {l l' : List Tk} (h : SimL b x x' l l') : (l = x ∧ l' = x') ∨ ((hd l).kind = (hd l').kind ∧ (hd l).text = (hd l').text ∧ (hd l).n = (hd l').n ∧ (b = true → (hd l).pos = (hd l').pos) ∧ (hd l).kind ≠ 0 ∧ SimL b x x' (stepL l) (stepL l')) := by
  obtain ⟨t, t', rfl, rfl, h, hk⟩ := h
  cases t with
  | nil =>
    cases t' with
    | nil => exact .inl ⟨rfl, rfl⟩
    | cons a t' => cases h
  | cons a t =>
    cases t' with
    | nil => cases h
    | cons a' t' =>
      rw [List.map_cons, List.map_cons, List.cons.injEq] at h
      obtain ⟨h1, h2⟩ := h
      unfold strT at h1
      rw [Tk.mk.injEq] at h1
      obtain ⟨e1, e2, e3, e4⟩ := h1
      have k0 : a.kind ≠ 0 := hk a (List.mem_cons_self ..)
      have s1 : stepL ((a :: t) ++ x) = t ++ x := by
        show (if a.kind = 0 then _ else _) = _
        rw [if_neg k0]; rfl
      have s2 : stepL ((a' :: t') ++ x') = t' ++ x' := by
        show (if a'.kind = 0 then _ else _) = _
        rw [if_neg (by rw [← e1]; exact k0)]; rfl
      refine .inr ⟨e1, e2, e3, fun hb => ?_, k0, ?_⟩
      · subst hb; exact e4
      · rw [s1, s2]
        exact ⟨t, t', rfl, rfl, h2, fun k hk' => hk k (List.mem_cons_of_mem _ hk')⟩
theorem isT_sim {l l' : List Tk} {w : List UInt8} (e1 : (hd l).kind = (hd l').kind) (e2 : (hd l).text = (hd l').text) : isT w l = isT w l' := by unfold isT; rw [e1, e2]
theorem SimL.peek {l l' : List Tk} (h : SimL b x x' l l') (hx : Stop x) (hx' : Stop x') {w : List UInt8} (hw : w ∈ peekT) : isT w l = isT w l' := by
  rcases h.cases with ⟨rfl, rfl⟩ | ⟨e1, e2, -⟩
  · rw [hx.word w hw, hx'.word w hw]
  · exact isT_sim e1 e2
theorem SimL.peeks {l l' : List Tk} (h : SimL b x x' l l') (hx : Stop x) (hx' : Stop x') {ws : List (List UInt8)} (hw : ∀ w ∈ ws, w ∈ peekT) : anyT ws l = anyT ws l' := by
  unfold anyT
  rw [Bool.eq_iff_iff, List.any_eq_true, List.any_eq_true]
  constructor
  · rintro ⟨w, h1, h2⟩; exact ⟨w, h1, by rw [← h.peek hx hx' (hw w h1)]; exact h2⟩
  · rintro ⟨w, h1, h2⟩; exact ⟨w, h1, by rw [h.peek hx hx' (hw w h1)]; exact h2⟩
theorem SimL.some {l l' : List Tk} (h : SimL b x x' l l') (hx : Stop x) {w : List UInt8} (hw : isT w l = true) (hp : w ∈ peekT) : (hd l).kind = (hd l').kind ∧ (hd l).text = (hd l').text ∧ (hd l).n = (hd l').n ∧ (b = true → (hd l).pos = (hd l').pos) ∧ SimL b x x' (stepL l) (stepL l') := by
  rcases h.cases with ⟨rfl, rfl⟩ | ⟨e1, e2, e3, e4, -, e6⟩
  · rw [hx.word w hp] at hw; cases hw
  · exact ⟨e1, e2, e3, e4, e6⟩
theorem SimL.somes {l l' : List Tk} (h : SimL b x x' l l') (hx : Stop x) {ws : List (List UInt8)} (hw : anyT ws l = true) (hp : ∀ w ∈ ws, w ∈ peekT) : (hd l).kind = (hd l').kind ∧ (hd l).text = (hd l').text ∧ (hd l).n = (hd l').n ∧ (b = true → (hd l).pos = (hd l').pos) ∧ SimL b x x' (stepL l) (stepL l') := by
  unfold anyT at hw
  obtain ⟨w, h1, h2⟩ := List.any_eq_true.1 hw
  exact h.some hx h2 (hp w h1)
theorem SimR.error {e : Int × Int} {r' : Rd} : SimR b d x x' (.error e) r' := fun _ _ h => by cases h
theorem SimR.ok {t t' : Nd} {l l' : List Tk} (ht : strN b t = strN b t') (hl : SimL b x x' l l') : SimR b d x x' (.ok (t, l)) (.ok (t', l')) := fun u m h => by cases h; exact .inl ⟨t', l', rfl, ht, hl⟩
theorem SimR.made {t t' : Nd} {l l' : List Tk} (ht : strN b t = strN b t') (hl : SimL b x x' l l') : SimR b d x x' (made t l) (made t' l') := by
  have h : depthN t = depthN t' := by rw [← depth_str b t, ht, depth_str b t']
  unfold Proofs.YtcndknkdhlmdnaaGreatDoor.made
  rw [← h]
  split
  · exact SimR.error
  · exact SimR.ok ht hl
theorem SimR.then {r r' : Rd} {f g : Nd → List Tk → Rd} (h : SimR b d x x' r r') (hf : ∀ t t' l l', strN b t = strN b t' → SimL b x x' l l' → SimR b d x x' (f t l) (g t' l')) : SimR b d x x' (r.then f) (r'.then g) := by
  cases r with
  | error e => exact SimR.error
  | ok p =>
    obtain ⟨t, l⟩ := p
    rcases h t l rfl with ⟨t', l', rfl, ht, hl⟩ | ⟨hd, p, rfl⟩
    · exact hf t t' l l' ht hl
    · exact fun _ _ _ => .inr ⟨hd, p, rfl⟩
theorem SimR.want {l l' : List Tk} {w : List UInt8} {f g : List Tk → Rd} (h : SimL b x x' l l') (hx : isT w x = false) (hf : ∀ l l', SimL b x x' l l' → SimR b d x x' (f l) (g l')) : SimR b d x x' (wantT w l f) (wantT w l' g) := by
  unfold wantT
  rcases h.cases with ⟨rfl, rfl⟩ | ⟨e1, e2, -, -, -, e6⟩
  · rw [hx]; exact SimR.error
  · rw [isT_sim e1 e2]
    split
    · exact hf _ _ e6
    · exact SimR.error
theorem SimR.kind {l l' : List Tk} {k : Int} {f g : Tk → List Tk → Rd} (h : SimL b x x' l l') (hx : (hd x).kind ≠ k) (hf : ∀ t t' l l', t.text = t'.text → t.n = t'.n → (b = true → t.pos = t'.pos) → SimL b x x' l l' → SimR b d x x' (f t l) (g t' l')) : SimR b d x x' (kindT k l f) (kindT k l' g) := by
  unfold kindT
  rcases h.cases with ⟨rfl, rfl⟩ | ⟨e1, e2, e3, e4, -, e6⟩
  · rw [if_neg hx]; exact SimR.error
  · rw [e1]
    split
    · exact hf _ _ _ _ e2 e3 e4 e6
    · exact SimR.error
theorem SimR.ite {c c' : Prop} [Decidable c] [Decidable c'] {u v u' v' : Rd} (hc : c ↔ c') (h : c → SimR b d x x' u u') (h' : ¬ c → SimR b d x x' v v') : SimR b d x x' (if c then u else v) (if c' then u' else v') := by
  by_cases g : c
  · rw [if_pos g, if_pos (hc.1 g)]; exact h g
  · rw [if_neg g, if_neg (fun g' => g (hc.2 g'))]; exact h' g
theorem SimR.nest {n : Nat} {l l' : List Tk} {r r' : Rd} (h : SimR b d x x' r r') : SimR b d x x' (nestT n l r) (nestT (n + d) l' r') := by
  unfold nestT
  by_cases g : 300 < n + 1
  · rw [if_pos g]; exact SimR.error
  rw [if_neg g]
  by_cases g' : 300 < n + d + 1
  · rw [if_pos g']
    exact fun _ _ _ => .inr ⟨by omega, _, rfl⟩
  · rw [if_neg g']; exact h
theorem str_mk {k n p p' : Int} {s s' : List UInt8} {ks ks' : List Nd} (hs : s = s') (hk : ks.map (strN b) = ks'.map (strN b)) (hp : b = true → p = p') {n' : Int} (hn : n = n') : strN b (mkN k s n ks p) = strN b (mkN k s' n' ks' p') := by
  unfold mkN
  rw [strN, strN, strKs_map, strKs_map, hk, hs, hn]
  cases b with
  | false => rfl
  | true => rw [hp rfl]
end

/-- the same thing to be read, but for places -/
inductive SimM (b : Bool) : Md → Md → Prop
  | expr : SimM b .expr .expr
  | chain (lv : Nat) : SimM b (.chain lv) (.chain lv)
  | loop (lv : Nat) {t t' : Nd} (h : strN b t = strN b t') : SimM b (.loop lv t) (.loop lv t')
  | not : SimM b .not .not
  | unary : SimM b .unary .unary
  | atom : SimM b .atom .atom
  | args {l l' : List Nd} (h : l.map (strN b) = l'.map (strN b)) : SimM b (.args l) (.args l')
theorem SimM.lower (b : Bool) (lv : Nat) : SimM b (lower lv) (lower lv) := by
  unfold Proofs.YtcndknkdhlmdnaaGreatDoor.lower
  split
  · exact .chain 1
  split
  · exact .not
  split
  · exact .chain 3
  · exact .unary
theorem signs_peek (lv : Nat) : ∀ w ∈ signsT lv, w ∈ peekT := by
  unfold signsT
  split
  · decide
  split
  · decide
  split <;> decide
theorem kids_str {b : Bool} {t t' : Nd} (h : strN b t = strN b t') : t.kids.map (strN b) = t'.kids.map (strN b) := by
  cases t with
  | mk k s n ks p =>
  cases t' with
  | mk k' s' n' ks' p' =>
  rw [strN, strN, Nd.mk.injEq, strKs_map, strKs_map] at h
  exact h.2.2.2.1
theorem body_sim {b : Bool} {d : Nat} {x x' : List Tk} (hx : Stop x) (hx' : Stop x') (hq : isT tThen x = false ∧ isT tElse x = false ∧ isT tShut x = false ∧ (hd x).kind ≠ 7) {g h : Md → Nat → List Tk → Rd} (ih : ∀ m m' n l l', SimM b m m' → SimL b x x' l l' → SimR b d x x' (g m n l) (h m' (n + d) l'))
    (m m' : Md) (hm : SimM b m m') (n : Nat) (l l' : List Tk) (hl : SimL b x x' l l') : SimR b d x x' (body g m n l) (body h m' (n + d) l') := by
  have bt : ∀ {u v : Bool}, u = v → (u = true ↔ v = true) := fun e => by rw [e]
  have ih1 : ∀ m m' n l l', SimM b m m' → SimL b x x' l l' → SimR b d x x' (g m (n + 1) l) (h m' (n + d + 1) l') := fun m m' n l l' h1 h2 => by
    rw [show n + d + 1 = n + 1 + d by omega]; exact ih m m' (n + 1) l l' h1 h2
  cases hm with
  | expr =>
    refine SimR.nest (SimR.ite (bt (hl.peek hx hx' (by decide))) (fun c => ?_) fun _ => ih1 _ _ _ _ _ (.chain 0) hl)
    obtain ⟨-, -, -, hp, hl2⟩ := hl.some hx c (by decide)
    refine (ih1 _ _ _ _ _ .expr hl2).then fun t t' l1 l1' ht h1 => SimR.want h1 hq.1 fun l2 l2' h2 => (ih1 _ _ _ _ _ .expr h2).then fun u u' l3 l3' hu h3 => SimR.want h3 hq.2.1 fun l4 l4' h4 => (ih1 _ _ _ _ _ .expr h4).then fun v v' l5 l5' hv h5 =>
      SimR.made (str_mk rfl (by simp only [List.map_cons, List.map_nil, ht, hu, hv]) hp rfl) h5
  | chain lv => exact (ih _ _ _ _ _ (SimM.lower b lv) hl).then fun t t' l1 l1' ht h1 => ih _ _ _ _ _ (.loop lv ht) h1
  | loop lv ht =>
    refine SimR.ite (bt (hl.peeks hx hx' (signs_peek lv))) (fun c => ?_) fun _ => SimR.ok ht hl
    obtain ⟨-, ht2, -, hp, hl2⟩ := hl.somes hx c (signs_peek lv)
    exact (ih _ _ _ _ _ (SimM.lower b lv) hl2).then fun u u' l1 l1' hu h1 => (SimR.made (str_mk ht2 (by simp only [List.map_cons, List.map_nil, ht, hu]) hp rfl) h1).then fun v v' l2 l2' hv h2 => ih _ _ _ _ _ (.loop lv hv) h2
  | not =>
    refine SimR.ite (bt (hl.peek hx hx' (by decide))) (fun c => ?_) fun _ => ?_
    · obtain ⟨-, ht2, -, hp, hl2⟩ := hl.some hx c (by decide)
      exact SimR.nest ((ih1 _ _ _ _ _ .not hl2).then fun u u' l1 l1' hu h1 => SimR.made (str_mk ht2 (by simp only [List.map_cons, List.map_nil, hu]) hp rfl) h1)
    · refine (ih _ _ _ _ _ (.chain 2) hl).then fun u u' l1 l1' hu h1 => SimR.ite (bt (h1.peeks hx hx' (by decide))) (fun c => ?_) fun _ => SimR.ok hu h1
      obtain ⟨-, ht2, -, hp, hl2⟩ := h1.somes hx c (by decide)
      exact (ih _ _ _ _ _ (.chain 2) hl2).then fun v v' l2 l2' hv h2 => SimR.made (str_mk ht2 (by simp only [List.map_cons, List.map_nil, hu, hv]) hp rfl) h2
  | unary =>
    refine SimR.ite (bt (hl.peek hx hx' (by decide))) (fun c => ?_) fun _ => ih _ _ _ _ _ .atom hl
    obtain ⟨-, ht2, -, hp, hl2⟩ := hl.some hx c (by decide)
    exact SimR.nest ((ih1 _ _ _ _ _ .unary hl2).then fun u u' l1 l1' hu h1 => SimR.made (str_mk ht2 (by simp only [List.map_cons, List.map_nil, hu]) hp rfl) h1)
  | args ha =>
    have hlen : ∀ {u v : List Nd}, u.map (strN b) = v.map (strN b) → u.length = v.length := fun e => by have := congrArg List.length e; simpa using this
    refine SimR.ite (by rw [hlen ha]) (fun _ => SimR.error) fun _ => ?_
    refine (ih _ _ _ _ _ .expr hl).then fun u u' l1 l1' hu h1 => ?_
    have hacc : ∀ {v v' : List Nd}, v.map (strN b) = v'.map (strN b) → (v ++ [u]).map (strN b) = (v' ++ [u']).map (strN b) := fun e => by rw [List.map_append, List.map_append, e, List.map_cons, List.map_cons, hu]
    refine SimR.ite (bt (h1.peek hx hx' (by decide))) (fun c => ?_) fun _ => SimR.want h1 hq.2.2.1 fun l2 l2' h2 => SimR.ok (str_mk rfl (hacc ha) (fun _ => rfl) rfl) h2
    exact ih _ _ _ _ _ (.args (hacc ha)) (h1.some hx c (by decide)).2.2.2.2
  | atom =>
    rcases hl.cases with ⟨rfl, rfl⟩ | ⟨e1, e2, e3, e4, -, e6⟩
    · have w := hx.word
      have k := hx.kind
      show SimR b d _ _ (if _ then _ else _) _
      rw [if_neg k.1, if_neg k.2.1, if_neg k.2.2.1, if_neg (by rintro (c | c); exact k.2.2.2.1 c; exact k.2.2.2.2 c), if_neg (by rw [w tTrue (by decide)]; decide), if_neg (by rw [w tFalse (by decide)]; decide), if_neg (by rw [w tFeed (by decide)]; decide), if_neg (by rw [w tPick (by decide)]; decide), if_neg (by rw [w tOpen (by decide)]; decide)]
      exact SimR.error
    · have hi : ∀ w, (isT w l = true ↔ isT w l' = true) := fun w => bt (isT_sim e1 e2)
      refine SimR.ite (by rw [e1]) (fun _ => SimR.ok (str_mk rfl rfl e4 e3) e6) fun _ => SimR.ite (by rw [e1]) (fun _ => SimR.ok (str_mk rfl rfl e4 e3) e6) fun _ => SimR.ite (by rw [e1]) (fun _ => SimR.ok (str_mk e2 rfl e4 rfl) e6) fun _ => SimR.ite (by rw [e1]) (fun _ => ?_) fun _ =>
        SimR.ite (hi _) (fun _ => SimR.ok (str_mk rfl rfl e4 rfl) e6) fun _ => SimR.ite (hi _) (fun _ => SimR.ok (str_mk rfl rfl e4 rfl) e6) fun _ => SimR.ite (hi _) (fun _ => SimR.kind e6 hq.2.2.2 fun t t' l1 l1' ht _ _ h1 => SimR.ok (str_mk ht rfl e4 rfl) h1) fun _ =>
        SimR.ite (hi _) (fun _ => ?_) fun _ => SimR.ite (hi _) (fun _ => ?_) fun _ => SimR.error
      · refine SimR.ite (bt (e6.peek hx hx' (by decide))) (fun c => ?_) fun _ => SimR.ok (str_mk e2 rfl e4 rfl) e6
        exact (ih _ _ _ _ _ (.args rfl) (e6.some hx c (by decide)).2.2.2.2).then fun t t' l1 l1' ht h1 => SimR.made (str_mk e2 (kids_str ht) e4 rfl) h1
      · have hc := hx.word tComma (by decide)
        exact SimR.kind e6 hq.2.2.2 fun t t' l1 l1' ht _ _ h1 => SimR.want h1 (hx.word tOpen (by decide)) fun l2 l2' h2 => (ih _ _ _ _ _ .expr h2).then fun u u' l3 l3' hu h3 => SimR.want h3 hc fun l4 l4' h4 => (ih _ _ _ _ _ .expr h4).then fun v v' l5 l5' hv h5 => SimR.want h5 hc fun l6 l6' h6 =>
          (ih _ _ _ _ _ .expr h6).then fun o o' l7 l7' ho h7 => SimR.want h7 hq.2.2.1 fun l8 l8' h8 => SimR.made (str_mk ht (by simp only [List.map_cons, List.map_nil, hu, hv, ho]) e4 rfl) h8
      · exact (ih _ _ _ _ _ .expr e6).then fun u u' l1 l1' hu h1 => SimR.want h1 hq.2.2.1 fun l2 l2' h2 => SimR.ok hu h2
theorem run_sim {b : Bool} {d : Nat} {x x' : List Tk} (hx : Stop x) (hx' : Stop x') (hq : isT tThen x = false ∧ isT tElse x = false ∧ isT tShut x = false ∧ (hd x).kind ≠ 7) : ∀ (f : Nat) (m m' : Md) (n : Nat) (l l' : List Tk), SimM b m m' → SimL b x x' l l' → SimR b d x x' (runF f m n l) (rd m' (n + d) l')
  | 0, _, _, _, _, _, _, _ => SimR.error
  | f + 1, m, m', n, l, l', hm, hl => by
    rw [rd_eq m']
    exact body_sim hx hx' hq (fun m m' n l l' h1 h2 => run_sim hx hx' hq f m m' n l l' h1 h2) m m' hm n l l' hl
/-- what is read ahead of one end is read, but for places, ahead of another -/
theorem rd_sim {b : Bool} {d : Nat} {x x' : List Tk} (hx : Stop x) (hx' : Stop x') (hq : isT tThen x = false ∧ isT tElse x = false ∧ isT tShut x = false ∧ (hd x).kind ≠ 7) {m m' : Md} (n : Nat) {l l' : List Tk} (hm : SimM b m m') (hl : SimL b x x' l l') : SimR b d x x' (rd m n l) (rd m' (n + d) l') :=
  run_sim hx hx' hq _ m m' n l l' hm hl
end Go.Proofs.YtcndknkdhlmdnaaGreatDoor

/-
  A right expression's tokens are read as that expression (no program in sight).
-/
namespace Go.Proofs.YtcndknkdhlmdnaaGreatDoor

theorem made_ok {t : Nd} {r : List Tk} (h : depthN t ≤ 100) : made t r = .ok (t, r) := if_neg (by omega)
section
variable {nest : Nat} {l x : List Tk} {u : Nd}
end

/-- no word or sign that goes on with an expression stands here -/
def opsT : List (List UInt8) := [[111, 114], [97, 110, 100], [43], [45], [42], [47], [60], [60, 61], [61], tOpen]
def StopE (x : List Tk) : Prop := ∀ w ∈ opsT, isT w x = false
theorem StopE.any {x : List Tk} (h : StopE x) {ws : List (List UInt8)} (hw : ∀ w ∈ ws, w ∈ opsT) : anyT ws x = false := by
  unfold anyT
  rw [List.any_eq_false]
  exact fun w h1 => by rw [h w (hw w h1)]; decide
theorem signs_ops (lv : Nat) : ∀ w ∈ signsT lv, w ∈ opsT := by
  unfold signsT
  split
  · decide
  split
  · decide
  split <;> decide
end Go.Proofs.YtcndknkdhlmdnaaGreatDoor

/-
  usanceref07's Depth.
-/
namespace Go.Proofs.YtcndknkdhlmdnaaGreatDoor
open Go.RowKit
set_option maxRecDepth 100000

end Go.Proofs.YtcndknkdhlmdnaaGreatDoor

/-
  A right expression's tokens are read as that expression: signs and words (no program in sight).
-/
namespace Go.Proofs.YtcndknkdhlmdnaaGreatDoor

section
variable {nest : Nat} {l x : List Tk} {u : Nd}
end
end Go.Proofs.YtcndknkdhlmdnaaGreatDoor

/-
  Scanning a right expression's form gives its tokens (no program in sight).
-/
namespace Go.Proofs.YtcndknkdhlmdnaaGreatDoor

theorem name_small {l : List UInt8} (h : nameL l = true) : ∃ c r, l = c :: r ∧ smC c = true ∧ r.all inC = true ∧ l.length ≤ 24 := by
  have hn := h
  rw [← nameR_eq] at hn
  unfold nameR at hn
  simp only [Bool.and_eq_true, decide_eq_true_eq] at hn
  cases l with
  | nil => exact absurd hn.1.1 (by decide)
  | cons c r =>
    have hs : (if smC c = true then 1 + (r.takeWhile inC).length else 0) = r.length + 1 := hn.2
    by_cases hc : smC c = true
    · rw [if_pos hc] at hs
      exact ⟨c, r, rfl, hc, (takeWhile_all inC r).1 (by omega), hn.1.2⟩
    · rw [if_neg hc] at hs; omega
theorem great_gr (c : UInt8) : isGreat c = grC c := great_eq c
end Go.Proofs.YtcndknkdhlmdnaaGreatDoor

/-
  Scanning a right expression's form gives its tokens (no program in sight): whole trees.
-/
namespace Go.Proofs.YtcndknkdhlmdnaaGreatDoor

end Go.Proofs.YtcndknkdhlmdnaaGreatDoor

/-
  What a text's tokens are, told as a relation; how they hang on what stands behind them (no program in sight).
-/
namespace Go.Proofs.YtcndknkdhlmdnaaGreatDoor

/-- these bytes, from a place on, have these tokens -/
inductive Scan : List UInt8 → Int → List Tk → Prop
  | fin (p : Int) : Scan [] p [⟨0, [], 0, p⟩]
  | blank {c : UInt8} {r : List UInt8} {p : Int} {l : List Tk} (h : c.toNat ≤ 32) (hl : Scan r (p + 1) l) : Scan (c :: r) p l
  | rem {r : List UInt8} {p : Int} {l : List Tk} (hl : Scan (r.drop (remR r)) (p + 1 + remR r) l) : Scan (35 :: r) p l
  | tok {c : UInt8} {r : List UInt8} {p : Int} {t : Tk} {n : Nat} {l : List Tk} (h : ¬ c.toNat ≤ 32) (h' : c ≠ 35) (ht : tokS c r p = .ok (t, n)) (hl : Scan ((c :: r).drop n) (p + n) l) : Scan (c :: r) p (t :: l)
theorem scan_of (N : Nat) : ∀ (u : List UInt8), u.length ≤ N → ∀ (p : Int) (k : Nat) (l : List Tk), scanS u p k 0 = .ok l → Scan u p l ∧ k + l.length ≤ 8193 ∨ 8192 < k := by
  induction N with
  | zero =>
    intro u hu p k l h
    cases u with
    | nil =>
      by_cases hk : 8192 < k
      · exact .inr hk
      · cases h
        exact .inl ⟨.fin p, by simp; omega⟩
    | cons c r => simp at hu
  | succ N ih =>
    intro u hu p k l h
    cases u with
    | nil =>
      by_cases hk : 8192 < k
      · exact .inr hk
      · cases h
        exact .inl ⟨.fin p, by simp; omega⟩
    | cons c r =>
      rw [List.length_cons] at hu
      by_cases h32 : c.toNat ≤ 32
      · rw [scan_blank h32] at h
        rcases ih r (by omega) _ _ _ h with ⟨h1, h2⟩ | h1
        · exact .inl ⟨.blank h32 h1, h2⟩
        · exact .inr h1
      by_cases h35 : c = 35
      · rw [scan_rem h35] at h
        subst h35
        rcases ih _ (by rw [List.length_drop]; omega) _ _ _ h with ⟨h1, h2⟩ | h1
        · exact .inl ⟨.rem h1, h2⟩
        · exact .inr h1
      cases hx : tokS c r p with
      | error e => rw [scan_err h32 h35 hx] at h; cases h
      | ok q =>
        obtain ⟨t, n⟩ := q
        have hn := tok_len hx
        by_cases hk : k = 8192
        · rw [scan_many h32 h35 hx hk] at h; cases h
        rw [scan_tok h32 h35 hx hk] at h
        cases hs : scanS ((c :: r).drop n) (p + n) (k + 1) 0 with
        | error e => rw [hs] at h; cases h
        | ok l' =>
          rw [hs] at h
          obtain rfl : [t] ++ l' = l := Except.ok.inj h
          rcases ih _ (by rw [List.length_drop, List.length_cons]; omega) _ _ _ hs with ⟨h1, h2⟩ | h1
          · exact .inl ⟨.tok h32 h35 hx h1, by simp; omega⟩
          · exact .inr (by omega)
theorem Scan.ne {u : List UInt8} {p : Int} {l : List Tk} (h : Scan u p l) : l ≠ [] := by
  induction h with
  | fin p => exact List.cons_ne_nil _ _
  | blank h hl ih => exact ih
  | rem hl ih => exact ih
  | tok h h' ht hl ih => exact List.cons_ne_nil _ _
theorem Scan.run {u : List UInt8} {p : Int} {l : List Tk} (h : Scan u p l) : ∀ k, k + l.length ≤ 8193 → scanS u p k 0 = .ok l := by
  induction h with
  | fin p => intro k hk; rfl
  | blank h hl ih => intro k hk; rw [scan_blank h]; exact ih k hk
  | rem hl ih => intro k hk; rw [scan_rem rfl]; exact ih k hk
  | @tok c r p t n l h h' ht hl ih =>
    intro k hk
    rw [List.length_cons] at hk
    have hl0 : 0 < l.length := List.length_pos_iff.2 hl.ne
    rw [scan_tok h h' ht (by omega), ih (k + 1) (by omega)]
    rfl
theorem Scan.only {u : List UInt8} {p : Int} {l : List Tk} (h : Scan u p l) : ∀ {l' : List Tk}, Scan u p l' → l' = l := by
  induction h with
  | fin p => intro l' h'; cases h'; rfl
  | blank h hl ih =>
    intro l' h'
    cases h' with
    | blank g gl => exact ih gl
    | rem gl => exact absurd h (by decide)
    | tok g g' gt gl => exact absurd h g
  | rem hl ih =>
    intro l' h'
    cases h' with
    | blank g gl => exact absurd g (by decide)
    | rem gl => exact ih gl
    | tok g g' gt gl => exact absurd rfl g'
  | tok h h' ht hl ih =>
    intro l' g'
    cases g' with
    | blank g gl => exact absurd g h
    | rem gl => exact absurd rfl h'
    | tok g g' gt gl =>
      rw [ht] at gt
      cases gt
      rw [ih gl]
theorem scanT_of {u : List UInt8} {l : List Tk} (h : scanT u = .ok l) : Scan u 0 l ∧ l.length ≤ 8193 ∧ u.length ≤ 16384 := by
  unfold scanT at h
  split at h
  · cases h
  · rename_i g
    rcases scan_of _ u (Nat.le_refl _) 0 0 l h with ⟨h1, h2⟩ | h1
    · exact ⟨h1, by omega, by omega⟩
    · omega
theorem Scan.text {u : List UInt8} {l : List Tk} (h : Scan u 0 l) (h1 : u.length ≤ 16384) (h2 : l.length ≤ 8193) : scanT u = .ok l := by
  unfold scanT
  rw [if_neg (by omega)]
  exact h.run 0 (by omega)
/-- may a token end here: the same byte as in another text, or a blank, a remark, the end -/
def hdOk (u u' : List UInt8) : Prop := u'.headD 0 = u.headD 0 ∨ (u'.headD 0).toNat ≤ 32 ∨ u'.headD 0 = 35
def softC (c : UInt8) : Bool := !(inC c || grC c || dgC c || c == 46 || c == 61)
theorem soft_hd {c : UInt8} (h : c.toNat ≤ 32 ∨ c = 35) : softC c = true := by
  have := u8_all (p := fun c => !(decide (c.toNat ≤ 32) || c == 35) || softC c) (by decide +kernel) c
  simp only [Bool.or_eq_true, Bool.not_eq_true', Bool.or_eq_false_iff, decide_eq_false_iff_not, beq_eq_false_iff_ne] at this
  rcases this with ⟨h1, h2⟩ | this
  · rcases h with h | h
    · exact absurd h h1
    · exact absurd h h2
  · exact this
theorem soft_in {c : UInt8} (h : softC c = true) : inC c = false ∧ grC c = false ∧ dgC c = false ∧ c ≠ 46 ∧ c ≠ 61 := by
  unfold softC at h
  simp only [Bool.not_eq_true', Bool.or_eq_false_iff, beq_eq_false_iff_ne] at h
  exact ⟨h.1.1.1.1, h.1.1.1.2, h.1.1.2, h.1.2, h.2⟩
/-- where a run of bytes ends, it ends ahead of other bytes too -/
theorem run_ctx {p : UInt8 → Bool} (h0 : ∀ c, softC c = true → p c = false) {u u' : List UInt8} {n : Nat} (hn : (u.takeWhile p).length ≤ n) (hu : u'.take n = u.take n) (hl : n ≤ u.length) (hh : hdOk (u.drop n) (u'.drop n)) (hz : p 0 = false) : (u'.takeWhile p).length = (u.takeWhile p).length := by
  induction n generalizing u u' with
  | zero =>
    cases u' with
    | nil =>
      have : (u.takeWhile p).length = 0 := by omega
      rw [this]; rfl
    | cons c r =>
      have h1 : (u.takeWhile p).length = 0 := by omega
      rw [h1, List.takeWhile_cons]
      unfold hdOk at hh
      rw [List.drop_zero, List.drop_zero, List.headD_cons] at hh
      have : p c = false := by
        rcases hh with hh | hh
        · cases u with
          | nil => rw [hh]; exact hz
          | cons d s =>
            rw [List.headD_cons] at hh
            subst hh
            rw [List.takeWhile_cons] at h1
            cases hp : p c with
            | false => rfl
            | true => rw [hp] at h1; simp at h1
        · exact h0 c (soft_hd hh)
      rw [this]; rfl
  | succ n ih =>
    cases u with
    | nil => simp at hl
    | cons c r =>
      cases u' with
      | nil => simp at hu
      | cons d s =>
        rw [List.take_succ_cons, List.take_succ_cons, List.cons.injEq] at hu
        obtain ⟨rfl, hu⟩ := hu
        rw [List.takeWhile_cons, List.takeWhile_cons]
        cases hp : p d with
        | false => simp
        | true =>
          rw [List.takeWhile_cons, hp] at hn
          simp only [if_true, List.length_cons] at hn ⊢
          rw [ih (by omega) hu (by rw [List.length_cons] at hl; omega) hh]
end Go.Proofs.YtcndknkdhlmdnaaGreatDoor

/-
  A token is read alike whatever stands behind it, if it may end there (no program in sight).
-/
namespace Go.Proofs.YtcndknkdhlmdnaaGreatDoor

theorem run_stop {p : UInt8 → Bool} {u u' : List UInt8} {n : Nat} (hn : (u.takeWhile p).length < n) (hu : u'.take n = u.take n) (hl : n ≤ u.length) : (u'.takeWhile p).length = (u.takeWhile p).length := by
  induction n generalizing u u' with
  | zero => omega
  | succ n ih =>
    cases u with
    | nil => simp at hl
    | cons c r =>
      cases u' with
      | nil => simp at hu
      | cons d s =>
        rw [List.take_succ_cons, List.take_succ_cons, List.cons.injEq] at hu
        obtain ⟨rfl, hu⟩ := hu
        rw [List.takeWhile_cons, List.takeWhile_cons]
        cases hp : p d with
        | false => simp
        | true =>
          rw [List.takeWhile_cons, hp] at hn
          simp only [if_true, List.length_cons] at hn ⊢
          rw [ih (by omega) hu (by rw [List.length_cons] at hl; omega)]
theorem take_le {u u' : List UInt8} {n k : Nat} (h : u'.take n = u.take n) (hk : k ≤ n) : u'.take k = u.take k := by
  have := congrArg (List.take k) h
  rwa [List.take_take, List.take_take, Nat.min_eq_left hk] at this
theorem take_dr {u u' : List UInt8} {n : Nat} (h : u'.take n = u.take n) (k : Nat) : (u'.drop k).take (n - k) = (u.drop k).take (n - k) := by
  rw [← List.drop_take, ← List.drop_take, h]
theorem take_at {u u' : List UInt8} {n k : Nat} (h : u'.take n = u.take n) (hk : k < n) : (u'.drop k).headD 0 = (u.drop k).headD 0 := by
  have := take_dr h k
  have h1 := take_le this (show 1 ≤ n - k by omega)
  cases hu : u.drop k with
  | nil =>
    rw [hu] at h1
    cases hv : u'.drop k with
    | nil => rfl
    | cons a l => rw [hv] at h1; simp at h1
  | cons b m =>
    rw [hu] at h1
    cases hv : u'.drop k with
    | nil => rw [hv] at h1; simp at h1
    | cons a l =>
      rw [hv] at h1
      simp at h1
      rw [List.headD_cons, List.headD_cons, h1]
theorem hd_not {u u' : List UInt8} (h : hdOk u u') {c : UInt8} (hc : softC c = false) (hu : u.headD 0 ≠ c) : u'.headD 0 ≠ c := by
  rcases h with h | h
  · rw [h]; exact hu
  · intro e
    have := soft_hd h
    rw [e, hc] at this
    cases this
theorem hd_no {u u' : List UInt8} (h : hdOk u u') {p : UInt8 → Bool} (hp : ∀ c, softC c = true → p c = false) (hu : p (u.headD 0) = false) : p (u'.headD 0) = false := by
  rcases h with h | h
  · rw [h]; exact hu
  · exact hp _ (soft_hd h)
theorem soft_dg (c : UInt8) (h : softC c = true) : dgC c = false := (soft_in h).2.2.1
theorem soft_inn (c : UInt8) (h : softC c = true) : inC c = false := (soft_in h).1
theorem soft_gr (c : UInt8) (h : softC c = true) : grC c = false := (soft_in h).2.1
theorem soft_end (c : UInt8) (h : softC c = true) : numEnd c = true := by
  have := u8_all (p := fun c => !(softC c) || numEnd c) (by decide +kernel) c
  simpa [h] using this
theorem span_ctx {u u' : List UInt8} {n : Nat} (hn : spanL u ≤ n) (h1 : 1 ≤ spanL u) (hu : u'.take n = u.take n) (hl : n ≤ u.length) (hh : hdOk (u.drop n) (u'.drop n)) : spanL u' = spanL u := by
  cases u with
  | nil => exact absurd h1 (by decide)
  | cons c r =>
    have e : spanL (c :: r) = if smC c then 1 + (r.takeWhile inC).length else 0 := rfl
    rw [e] at hn h1
    split at h1
    · rename_i hc
      rw [if_pos hc] at hn
      obtain ⟨m, rfl⟩ : ∃ m, n = m + 1 := ⟨n - 1, by omega⟩
      cases u' with
      | nil => simp at hu
      | cons d s =>
        rw [List.take_succ_cons, List.take_succ_cons, List.cons.injEq] at hu
        obtain ⟨rfl, hu⟩ := hu
        rw [List.length_cons] at hl
        rw [e, show spanL (d :: s) = if smC d then 1 + (s.takeWhile inC).length else 0 from rfl, run_ctx soft_inn (by omega) hu (by omega) hh (by decide)]
    · omega
theorem named_ctx {L L' : List UInt8} {p : Int} {t : Tk} {n : Nat} (h : namedS L p = .ok (t, n)) (h1 : 1 ≤ spanL L) (hn : n ≤ L.length) (hu : L'.take n = L.take n) (hh : hdOk (L.drop n) (L'.drop n)) (p' : Int) : namedS L' p' = .ok (⟨t.kind, t.text, t.n, p'⟩, n) := by
  unfold namedS at h ⊢
  simp only at h ⊢
  split at h
  · rename_i hdot
    split at h
    · cases h
    · rename_i hno
      cases h
      have es : spanL L' = spanL L := span_ctx (by omega) h1 hu hn hh
      have em : spanL (L'.drop (spanL L + 1)) = spanL (L.drop (spanL L + 1)) := by
        refine span_ctx (n := spanL (L.drop (spanL L + 1))) (Nat.le_refl _) (by omega) ?_ (by rw [List.length_drop]; omega) ?_
        · have := take_dr hu (spanL L + 1)
          rwa [Nat.add_sub_cancel_left] at this
        · rw [List.drop_drop, List.drop_drop]; exact hh
      have e1 : L'.take (spanL L) = L.take (spanL L) := take_le hu (by omega)
      have e2 : (L'.drop (spanL L + 1)).take (spanL (L.drop (spanL L + 1))) = (L.drop (spanL L + 1)).take (spanL (L.drop (spanL L + 1))) := by
        have := take_dr hu (spanL L + 1)
        rwa [Nat.add_sub_cancel_left] at this
      rw [es, em, e1, e2, if_pos (by rw [take_at hu (by omega)]; exact hdot), if_neg hno]
  · rename_i hdot
    split at h
    · cases h
    · rename_i hno
      cases h
      have es : spanL L' = spanL L := span_ctx (Nat.le_refl _) h1 hu hn hh
      rw [es, hu, if_neg (hd_not hh (by decide) hdot), if_neg hno]
theorem date_parts (l : List UInt8) : dateAt l = true ↔ 10 ≤ l.length ∧ (∀ j (hj : j < (l.take 10).length), Cal.fits j (l.take 10)[j] = true) ∧ dgC ((l.drop 10).headD 0) = false := by
  unfold dateAt
  rw [Bool.and_eq_true, Bool.and_eq_true, decide_eq_true_eq, decide_eq_true_eq, Bool.not_eq_true']
theorem num_ctx {L L' : List UInt8} {p : Int} {t : Tk} {n : Nat} (h : numS L p = .ok (t, n)) (hn : n ≤ L.length) (hu : L'.take n = L.take n) (hh : hdOk (L.drop n) (L'.drop n)) (hd : dateAt L' = true → dateAt L = true) (p' : Int) : numS L' p' = .ok (⟨t.kind, t.text, t.n, p'⟩, n) := by
  have hend : ∀ {x y : List UInt8}, hdOk x y → numEnd (x.headD 0) = true → numEnd (y.headD 0) = true := fun {x y} g e => by
    rcases g with g | g
    · rw [g]; exact e
    · exact soft_end _ (soft_hd g)
  unfold numS at h ⊢
  split at h
  · rename_i hda
    split at h
    · cases h
    · rename_i v hv
      split at h
      · rename_i he
        cases h
        have hl' : 10 ≤ L'.length := by
          have := congrArg List.length hu
          rw [List.length_take, List.length_take] at this
          omega
        have hda' : dateAt L' = true := by
          obtain ⟨-, h2, h3⟩ := (date_parts L).1 hda
          refine (date_parts L').2 ⟨hl', ?_, hd_no hh soft_dg h3⟩
          rw [hu]; exact h2
        rw [if_pos hda', hu, hv]
        simp only
        rw [if_pos (hend hh he)]
      · cases h
  · rename_i hda
    have hda' : ¬ dateAt L' = true := fun e => hda (hd e)
    split at h
    · cases h
    · rename_i v hv
      split at h
      · rename_i he
        cases h
        have ed : digR L' = digR L := run_ctx soft_dg (by have : digR L ≤ numR L := by { unfold numR; split <;> omega }; exact this) hu hn hh (by decide)
        have er : numR L' = numR L := by
          by_cases hc : (L.drop (digR L)).headD 0 = 46 ∧ dgC ((L.drop (digR L + 1)).headD 0) = true
          · have eL : numR L = digR L + 1 + digR (L.drop (digR L + 1)) := if_pos hc
            have hpos : 1 ≤ digR (L.drop (digR L + 1)) := by
              cases hx : L.drop (digR L + 1) with
              | nil => rw [hx] at hc; exact absurd hc.2 (by decide)
              | cons a l => rw [hx] at hc; exact digR_pos hc.2
            rw [eL] at hu hh hn
            have e2 : digR (L'.drop (digR L + 1)) = digR (L.drop (digR L + 1)) := by
              refine run_ctx soft_dg (n := digR (L.drop (digR L + 1))) (Nat.le_refl _) ?_ (by rw [List.length_drop]; omega) ?_ (by decide)
              · have := take_dr hu (digR L + 1)
                rwa [Nat.add_sub_cancel_left] at this
              · rw [List.drop_drop, List.drop_drop]; exact hh
            rw [eL]
            unfold numR
            rw [ed, if_pos ⟨by rw [take_at hu (by omega)]; exact hc.1, by rw [take_at hu (by omega)]; exact hc.2⟩, e2]
          · have eL : numR L = digR L := if_neg hc
            rw [eL] at he hh ⊢
            have h46 : (L.drop (digR L)).headD 0 ≠ 46 := by
              intro e
              rw [e] at he
              exact absurd he (by decide)
            unfold numR
            rw [ed, if_neg (fun e => hd_not hh (by decide) h46 e.1)]
        rw [if_neg hda', er, hu, hv]
        simp only
        rw [if_pos (hend hh he)]
      · cases h
theorem quot_ctx {r r' : List UInt8} {p : Int} {t : Tk} {n : Nat} (h : quotS r p = .ok (t, n)) (hu : r'.take (n - 1) = r.take (n - 1)) (p' : Int) : quotS r' p' = .ok (⟨t.kind, t.text, t.n, p'⟩, n) := by
  have hlen := quotS_len h
  unfold quotS at h ⊢
  split at h
  · cases h
  · rename_i hq
    split at h
    · rename_i hnm
      cases h
      have hu' : r'.take (quoR r + 1) = r.take (quoR r + 1) := hu
      have eq : quoR r' = quoR r := run_stop (n := quoR r + 1) (Nat.lt_succ_self _) hu' (by omega)
      rw [eq, if_neg (by rw [take_at hu' (Nat.lt_succ_self _)]; exact hq), take_le hu' (Nat.le_succ _), if_pos hnm]
    · cases h
theorem cur_ctx {L L' : List UInt8} {p : Int} {t : Tk} {n : Nat} (h : curS L p = .ok (t, n)) (hn : n ≤ L.length) (hu : L'.take n = L.take n) (hh : hdOk (L.drop n) (L'.drop n)) (p' : Int) : curS L' p' = .ok (⟨t.kind, t.text, t.n, p'⟩, n) := by
  unfold curS at h ⊢
  split at h
  · rename_i h3
    cases h
    have eg : greR L' = greR L := run_ctx soft_gr (by show greR L ≤ 3; omega) hu hn hh (by decide)
    rw [eg, if_pos h3, hu]
  · cases h
theorem mark_ctx {c : UInt8} {r r' : List UInt8} {p : Int} {t : Tk} {n : Nat} (h : markS c r p = .ok (t, n)) (hu : r'.take (n - 1) = r.take (n - 1)) (hh : hdOk (r.drop (n - 1)) (r'.drop (n - 1))) (p' : Int) : markS c r' p' = .ok (⟨t.kind, t.text, t.n, p'⟩, n) := by
  unfold markS at h ⊢
  split at h
  · rename_i hc
    cases h
    have := take_at (k := 0) hu (by decide)
    rw [List.drop_zero, List.drop_zero] at this
    rw [if_pos ⟨hc.1, by rw [this]; exact hc.2⟩]
  · rename_i hc
    split at h
    · rename_i hm
      cases h
      rw [if_neg, if_pos hm]
      rintro ⟨e1, e2⟩
      exact hd_not hh (c := 61) (by decide) (fun e => hc ⟨e1, e⟩) e2
    · cases h
theorem tok_ctx {c : UInt8} {r r' : List UInt8} {p : Int} {t : Tk} {n : Nat} (h : tokS c r p = .ok (t, n)) (hu : r'.take (n - 1) = r.take (n - 1)) (hh : hdOk (r.drop (n - 1)) (r'.drop (n - 1))) (hd : dateAt (c :: r') = true → dateAt (c :: r) = true) (p' : Int) : tokS c r' p' = .ok (⟨t.kind, t.text, t.n, p'⟩, n) := by
  have hlen := tok_len h
  obtain ⟨m, rfl⟩ : ∃ m, n = m + 1 := ⟨n - 1, by omega⟩
  rw [Nat.add_sub_cancel] at hu hh
  have hu' : (c :: r').take (m + 1) = (c :: r).take (m + 1) := by rw [List.take_succ_cons, List.take_succ_cons, hu]
  have hh' : hdOk ((c :: r).drop (m + 1)) ((c :: r').drop (m + 1)) := hh
  have hl : m + 1 ≤ (c :: r).length := by rw [List.length_cons]; omega
  unfold tokS at h ⊢
  split
  · rename_i h1
    rw [if_pos h1] at h
    exact named_ctx h (by show 1 ≤ (if smC c then 1 + (r.takeWhile inC).length else 0); rw [if_pos h1]; omega) hl hu' hh' p'
  · rename_i h1
    rw [if_neg h1] at h
    split
    · rename_i h2
      rw [if_pos h2] at h
      exact num_ctx h hl hu' hh' hd p'
    · rename_i h2
      rw [if_neg h2] at h
      split
      · rename_i h3
        rw [if_pos h3] at h
        exact quot_ctx h hu p'
      · rename_i h3
        rw [if_neg h3] at h
        split
        · rename_i h4
          rw [if_pos h4] at h
          exact cur_ctx h hl hu' hh' p'
        · rename_i h4
          rw [if_neg h4] at h
          exact mark_ctx h hu hh p'
end Go.Proofs.YtcndknkdhlmdnaaGreatDoor
