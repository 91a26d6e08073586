/-
  Texts that the statements' proofs rest on, one behind another: NumLaw, ScanLaw, SynC.
-/
import Derived.Test.YtcndknkdhlmdnaaGreatDoorM10
import Derived.Test.YtcndknkdhlmdnaaGreatDoorM05
import Derived.Test.YtcndknkdhlmdnaaGreatDoorM04

/-
  Numbers read from texts, byte by byte (no program in sight).
-/
namespace Go.Proofs.YtcndknkdhlmdnaaGreatDoor

theorem dg_isDig (c : UInt8) : dgC c = Cal.isDig c := by
  have := u8_each (p := fun c => dgC c == Cal.isDig c) (by decide +kernel) c
  exact eq_of_beq this
theorem dgC_I (c : UInt8) : dgC c = dgI c.toNat := by
  have := u8_each (p := fun c => dgC c == dgI c.toNat) (by decide +kernel) c
  exact eq_of_beq this
theorem all_isDig (l : List UInt8) : l.all dgC = l.all Cal.isDig := by rw [show dgC = Cal.isDig from funext dg_isDig]
/-- so many digits stand ahead -/
theorem digs_of {d : List UInt8} {k : Nat} (hk : k ≤ d.length) (h : ∀ j (hj : j < d.length), j < k → dgC d[j] = true) (h' : ∀ (hk : k < d.length), dgC d[k] = false) : digR d = k := takeWhile_len dgC d k hk h h'
theorem takeWhile_take {α : Type} (p : α → Bool) (l : List α) : l.takeWhile p = l.take (l.takeWhile p).length := (List.prefix_iff_eq_take.1 (List.takeWhile_prefix p))
theorem numU_eq {d : List UInt8} {k : Nat} (h : digR d = k) : numU d = if 1 ≤ k ∧ k ≤ 10 ∧ (k = 1 ∨ d.headD 0 ≠ 48) ∧ partOk (d.drop k) = true then some (Cal.val (d.take k ++ d.drop (k + 1) ++ List.replicate (6 - (d.drop (k + 1)).length) 48)) else none := by
  unfold digR at h
  unfold numU
  simp only
  rw [h, List.tail_drop, takeWhile_take, h]
/-- what a number's digits are, with those that are left out -/
def digQ (d : List UInt8) (k : Nat) : List UInt8 := d.drop (k + 1) ++ List.replicate (6 - (d.drop (k + 1)).length) 48
theorem digQ_len {d : List UInt8} {k : Nat} (h : d.length - (k + 1) ≤ 6) : (digQ d k).length = 6 := by
  unfold digQ
  rw [List.length_append, List.length_replicate, List.length_drop]; omega
theorem digQ_at {d : List UInt8} {k i : Nat} (h : k + 1 + i < d.length) (hi : i < (digQ d k).length) : (digQ d k)[i] = d[k + 1 + i] := by
  unfold digQ at hi ⊢
  rw [List.getElem_append_left (by rw [List.length_drop]; omega), List.getElem_drop]
theorem digQ_0 {d : List UInt8} {k i : Nat} (h : ¬ k + 1 + i < d.length) (hi : i < (digQ d k).length) : (digQ d k)[i] = 48 := by
  unfold digQ at hi ⊢
  rw [List.getElem_append_right (by rw [List.length_drop]; omega), List.getElem_replicate]
theorem val_take {l q : List UInt8} {i : Nat} (hi : i < q.length) : Cal.val (l ++ q.take (i + 1)) = 10 * Cal.val (l ++ q.take i) + ((q[i].toNat : Int) - 48) := by
  rw [List.take_succ_eq_append_getElem hi, ← List.append_assoc, Cal.val_snoc]
theorem val_take' {d : List UInt8} {i : Nat} (hi : i < d.length) : Cal.val (d.take (i + 1)) = 10 * Cal.val (d.take i) + ((d[i].toNat : Int) - 48) := by
  rw [List.take_succ_eq_append_getElem hi, Cal.val_snoc]
theorem val_le {l : List UInt8} {n : Nat} (h : l.all dgC = true) (hn : l.length ≤ n) : 0 ≤ Cal.val l ∧ Cal.val l < 10 ^ n := by
  have := Cal.val_bd (l := l) (by rw [← all_isDig]; exact h)
  exact ⟨this.1, Int.lt_of_lt_of_le this.2 (by exact_mod_cast Nat.pow_le_pow_right (by decide) hn)⟩
theorem dig_toNat {c : UInt8} (h : dgC c = true) : 48 ≤ (c.toNat : Int) ∧ (c.toNat : Int) ≤ 57 := by
  unfold dgC at h
  simp only [Bool.and_eq_true, decide_eq_true_eq] at h
  omega
/-- a number's value, and is it one -/
def numV (l : List UInt8) : Int := (numP l).getD 0
def numB (l : List UInt8) : Bool := (numP l).isSome
theorem numP_pos {d : List UInt8} (h : d.headD 0 ≠ 45) : numP d = match numU d with | some n => if 1000000000000000 < n then none else some n | none => none := if_neg h
theorem numP_none {d : List UInt8} (h : d.headD 0 ≠ 45) (hu : numU d = none) : numV d = 0 ∧ numB d = false := by
  unfold numV numB
  rw [numP_pos h, hu]
  exact ⟨rfl, rfl⟩
theorem numP_some {d : List UInt8} {n : Int} (h : d.headD 0 ≠ 45) (hu : numU d = some n) (hn : ¬ 1000000000000000 < n) : numV d = n ∧ numB d = true := by
  unfold numV numB
  rw [numP_pos h, hu]
  simp only [if_neg hn]
  exact ⟨rfl, rfl⟩
theorem numP_big {d : List UInt8} {n : Int} (h : d.headD 0 ≠ 45) (hu : numU d = some n) (hn : 1000000000000000 < n) : numV d = 0 ∧ numB d = false := by
  unfold numV numB
  rw [numP_pos h, hu]
  simp only [if_pos hn]
  exact ⟨rfl, rfl⟩

end Go.Proofs.YtcndknkdhlmdnaaGreatDoor

/-
  Scanning, token by token (no program in sight).
-/
namespace Go.Proofs.YtcndknkdhlmdnaaGreatDoor

theorem headD_ne {l : List UInt8} (h : l.headD 0 ≠ 0) : 0 < l.length := by
  cases l with
  | nil => exact absurd rfl h
  | cons a l => simp
theorem drop_ne {l : List UInt8} {n : Nat} (h : (l.drop n).headD 0 ≠ 0) : n < l.length := by
  have := headD_ne h
  rw [List.length_drop] at this; omega
theorem takeWhile_le {α : Type} (p : α → Bool) (l : List α) : (l.takeWhile p).length ≤ l.length := (List.takeWhile_sublist (l := l) p).length_le
theorem namedS_len {l : List UInt8} {pos : Int} {t : Tk} {n : Nat} (h : namedS l pos = .ok (t, n)) (h1 : 1 ≤ spanL l) : 1 ≤ n ∧ n ≤ l.length := by
  have hs := spanL_le l
  unfold namedS at h
  simp only at h
  split at h
  · rename_i hd
    have hd' := drop_ne (l := l) (n := spanL l) (by rw [hd]; decide)
    have hs2 := spanL_le (l.drop (spanL l + 1))
    rw [List.length_drop] at hs2
    split at h
    · cases h
    · simp only [Except.ok.injEq, Prod.mk.injEq] at h
      omega
  · split at h
    · cases h
    · simp only [Except.ok.injEq, Prod.mk.injEq] at h
      omega
theorem digR_pos {c : UInt8} {r : List UInt8} (h : dgC c = true) : 1 ≤ digR (c :: r) := by
  unfold digR
  rw [List.takeWhile_cons, if_pos h]; simp
theorem numR_len {l : List UInt8} (h : 1 ≤ digR l) : 1 ≤ numR l ∧ numR l ≤ l.length := by
  have h1 : digR l ≤ l.length := takeWhile_le dgC l
  unfold numR
  split
  · rename_i hd
    have hd' := drop_ne (l := l) (n := digR l) (by rw [hd.1]; decide)
    have h2 : digR (l.drop (digR l + 1)) ≤ (l.drop (digR l + 1)).length := takeWhile_le dgC _
    rw [List.length_drop] at h2
    omega
  · omega
theorem numS_len {l : List UInt8} {pos : Int} {t : Tk} {n : Nat} (h : numS l pos = .ok (t, n)) (h1 : 1 ≤ digR l) : 1 ≤ n ∧ n ≤ l.length := by
  unfold numS at h
  split at h
  · rename_i hd
    unfold dateAt at hd
    rw [Bool.and_eq_true, decide_eq_true_eq] at hd
    split at h
    · cases h
    · split at h
      · simp only [Except.ok.injEq, Prod.mk.injEq] at h; omega
      · cases h
  · have := numR_len h1
    split at h
    · cases h
    · split at h
      · simp only [Except.ok.injEq, Prod.mk.injEq] at h; omega
      · cases h
theorem quotS_len {r : List UInt8} {pos : Int} {t : Tk} {n : Nat} (h : quotS r pos = .ok (t, n)) : 1 ≤ n ∧ n ≤ r.length + 1 := by
  unfold quotS at h
  split at h
  · cases h
  · rename_i hd
    have := drop_ne (l := r) (n := quoR r) (by rw [Decidable.not_not.1 hd]; decide)
    split at h
    · simp only [Except.ok.injEq, Prod.mk.injEq] at h; omega
    · cases h
theorem tok_len {c : UInt8} {r : List UInt8} {pos : Int} {t : Tk} {n : Nat} (h : tokS c r pos = .ok (t, n)) : 1 ≤ n ∧ n ≤ r.length + 1 := by
  unfold tokS at h
  split at h
  · rename_i hs
    exact namedS_len h (by show 1 ≤ (if smC c = true then 1 + (r.takeWhile inC).length else 0); rw [if_pos hs]; omega)
  split at h
  · rename_i hd
    exact numS_len h (digR_pos hd)
  split at h
  · exact quotS_len h
  split at h
  · unfold curS at h
    split at h
    · rename_i h3
      have : greR (c :: r) ≤ (c :: r).length := takeWhile_le grC _
      simp only [Except.ok.injEq, Prod.mk.injEq] at h
      rw [List.length_cons] at this
      omega
    · cases h
  · unfold markS at h
    split at h
    · rename_i h2
      have := headD_ne (l := r) (by rw [h2.2]; decide)
      simp only [Except.ok.injEq, Prod.mk.injEq] at h; omega
    · split at h
      · simp only [Except.ok.injEq, Prod.mk.injEq] at h; omega
      · cases h
theorem scan_skip : ∀ (l : List UInt8) (pos : Int) (k n : Nat), n ≤ l.length → scanS l pos k n = scanS (l.drop n) (pos + n) k 0
  | l, pos, k, 0, _ => by rw [List.drop_zero]; congr 1; omega
  | [], _, _, n + 1, h => by simp at h
  | c :: r, pos, k, n + 1, h => by
    rw [scanS, scan_skip r (pos + 1) k n (by simpa using h), List.drop_succ_cons]
    congr 1; omega
/-- tokens ahead of a reading -/
def ahead (ts : List Tk) (x : Except (Int × Int) (List Tk)) : Except (Int × Int) (List Tk) := match x with
  | .error e => .error e
  | .ok r => .ok (ts ++ r)
theorem ahead_nil (x : Except (Int × Int) (List Tk)) : ahead [] x = x := by cases x <;> rfl
theorem ahead_app (a b : List Tk) (x : Except (Int × Int) (List Tk)) : ahead a (ahead b x) = ahead (a ++ b) x := by
  cases x with
  | error e => rfl
  | ok r => simp [ahead]
theorem scan_blank {c : UInt8} {r : List UInt8} {pos : Int} {k : Nat} (h : c.toNat ≤ 32) : scanS (c :: r) pos k 0 = scanS r (pos + 1) k 0 := by
  rw [scanS, if_pos h]
theorem scan_rem {c : UInt8} {r : List UInt8} {pos : Int} {k : Nat} (h : c = 35) : scanS (c :: r) pos k 0 = scanS (r.drop (remR r)) (pos + 1 + remR r) k 0 := by
  rw [scanS, if_neg (by rw [h]; decide), if_pos h]
  exact scan_skip _ _ _ _ (takeWhile_le _ r)
theorem scan_err {c : UInt8} {r : List UInt8} {pos : Int} {k : Nat} {e : Int} (h : ¬ c.toNat ≤ 32) (h' : c ≠ 35) (ht : tokS c r pos = .error e) : scanS (c :: r) pos k 0 = .error (e, pos) := by
  rw [scanS, if_neg h, if_neg h', ht]
theorem scan_many {c : UInt8} {r : List UInt8} {pos : Int} {k : Nat} {t : Tk} {n : Nat} (h : ¬ c.toNat ≤ 32) (h' : c ≠ 35) (ht : tokS c r pos = .ok (t, n)) (hk : k = 8192) : scanS (c :: r) pos k 0 = .error (76, pos) := by
  rw [scanS, if_neg h, if_neg h', ht]
  simp only
  rw [if_pos hk]
theorem scan_tok {c : UInt8} {r : List UInt8} {pos : Int} {k : Nat} {t : Tk} {n : Nat} (h : ¬ c.toNat ≤ 32) (h' : c ≠ 35) (ht : tokS c r pos = .ok (t, n)) (hk : k ≠ 8192) : scanS (c :: r) pos k 0 = ahead [t] (scanS ((c :: r).drop n) (pos + n) (k + 1) 0) := by
  have hl := tok_len ht
  obtain ⟨m, rfl⟩ : ∃ m, n = m + 1 := ⟨n - 1, by omega⟩
  rw [scanS, if_neg h, if_neg h', ht]
  simp only
  rw [if_neg hk, Nat.add_sub_cancel, scan_skip r _ _ m (by omega), List.drop_succ_cons, show pos + 1 + (m : Int) = pos + ((m + 1 : Nat) : Int) by omega]
  cases scanS (r.drop m) (pos + ((m + 1 : Nat) : Int)) (k + 1) 0 <;> rfl

end Go.Proofs.YtcndknkdhlmdnaaGreatDoor

/-
  A right expression's tokens are read as that expression (no program in sight).
-/
namespace Go.Proofs.YtcndknkdhlmdnaaGreatDoor

/-! ### A tree's tokens -/
def tW (w : List UInt8) : Tk := ⟨2, w, 0, 0⟩
def tS (w : List UInt8) : Tk := ⟨8, w, 0, 0⟩
def opTk (s : List UInt8) : Tk := if s = [111, 114] ∨ s = [97, 110, 100] then tW s else tS s
def nameTk (s : List UInt8) : Tk := ⟨if (Lib.cut s [46]).2.2 = true then 3 else 1, s, 0, 0⟩
def commaT : List (List Tk) → List Tk
  | [] => []
  | f :: r => tS tComma :: (f ++ commaT r)
def argsT : List (List Tk) → List Tk
  | [] => [tS tShut]
  | f :: r => f ++ (commaT r ++ [tS tShut])
def listT (l : List (List Tk)) : List Tk := tS tOpen :: argsT l
def partT (kind : Int) (f : List Tk) : List Tk := if wrapK kind = true then tS tOpen :: (f ++ [tS tShut]) else f
def toksOf (kind n : Int) (s : List UInt8) (l : List (Int × List Tk)) : List Tk :=
  if kind = 5 then [⟨6, [], n, 0⟩]
  else if kind = 6 then [⟨5, [], n, 0⟩]
  else if kind = 7 then [⟨4, s, 0, 0⟩]
  else if kind = 8 then [tW (if n = 1 then tTrue else tFalse)]
  else if kind = 9 then [tW tFeed, ⟨7, s, 0, 0⟩]
  else if kind = 10 then [nameTk s]
  else if kind = 11 then nameTk s :: listT (l.map (·.2))
  else if kind = 15 then tW tPick :: ⟨7, s, 0, 0⟩ :: listT (l.map (·.2))
  else if kind = 12 then match l with
    | [a] => (if s = [45] then tS tMinus else tW tNot) :: partT a.1 a.2
    | _ => []
  else if kind = 13 then match l with
    | [a, b] => partT a.1 a.2 ++ opTk s :: partT b.1 b.2
    | _ => []
  else match l with
    | [a, b, c] => tW tIf :: (a.2 ++ tW tThen :: (b.2 ++ tW tElse :: c.2))
    | _ => []
mutual
def toksN : Nd → List Tk
  | .mk kind s n ks _ => toksOf kind n s.data.toList (toksKs ks)
def toksKs : List Nd → List (Int × List Tk)
  | [] => []
  | k :: ks => (k.kind, toksN k) :: toksKs ks
end
theorem toks_eq (t : Nd) : toksN t = toksOf t.kind t.n t.text.data.toList (toksKs t.kids) := by cases t; rw [toksN]; rfl
theorem toksKs_map : ∀ ks, toksKs ks = ks.map fun k => (k.kind, toksN k)
  | [] => by rw [toksKs]; rfl
  | k :: ks => by rw [toksKs, toksKs_map ks]; rfl
theorem toksKs_snd (ks : List Nd) : (toksKs ks).map (·.2) = ks.map toksN := by rw [toksKs_map, List.map_map]; rfl

mutual
theorem right_depth : ∀ (t : Nd) (d : Int), rightN t d = true → d + depthN t ≤ 101
  | .mk k s n ks p, d, h => by
    rw [rightN] at h
    simp only [Bool.and_eq_true, decide_eq_true_eq] at h
    have := rights_depth ks (d + 1) h.2 (by omega)
    rw [depthN]
    omega
theorem rights_depth : ∀ (ks : List Nd) (d : Int), rightKs ks d = true → d ≤ 101 → d + depthKs ks ≤ 101
  | [], d, _, hd => by rw [depthKs]; omega
  | k :: ks, d, h, hd => by
    rw [rightKs, Bool.and_eq_true] at h
    have h1 := right_depth k d h.1
    have h2 := rights_depth ks d h.2 hd
    rw [depthKs]
    omega
end
theorem depth_kid : ∀ (ks : List Nd) (k : Nd), k ∈ ks → depthN k ≤ depthKs ks
  | a :: r, k, h => by
    rw [depthKs]
    rcases List.mem_cons.1 h with rfl | h
    · omega
    · have := depth_kid r k h; omega
  | [], _, h => by cases h
theorem depth_kids (t : Nd) : depthN t = depthKs t.kids + 1 := by cases t; rw [depthN]; rfl

/-! ### Tokens that are spelt so -/
/-- such tokens stand ahead of x -/
def Sp (T l x : List Tk) : Prop := ∃ t, l = t ++ x ∧ t.map (strT false) = T
theorem Sp.nil {l x : List Tk} (h : Sp [] l x) : l = x := by
  obtain ⟨t, rfl, h⟩ := h
  rw [List.map_eq_nil_iff] at h
  rw [h]; rfl
theorem Sp.head {a : Tk} {T l x : List Tk} (h : Sp (a :: T) l x) : (hd l).kind = a.kind ∧ (hd l).text = a.text ∧ (hd l).n = a.n ∧ (a.kind ≠ 0 → Sp T (stepL l) x) := by
  obtain ⟨t, rfl, h⟩ := h
  cases t with
  | nil => cases h
  | cons c t =>
    rw [List.map_cons, List.cons.injEq] at h
    obtain ⟨rfl, h⟩ := h
    refine ⟨rfl, rfl, rfl, fun k => ⟨t, ?_, h⟩⟩
    show (if c.kind = 0 then _ else _) = _
    rw [if_neg (show ¬ c.kind = 0 from k)]; rfl
theorem Sp.app {T U l x : List Tk} (h : Sp (T ++ U) l x) : ∃ y, Sp T l y ∧ Sp U y x := by
  obtain ⟨t, rfl, h⟩ := h
  obtain ⟨a, c, rfl, ha, hc⟩ := List.map_eq_append_iff.1 h
  exact ⟨c ++ x, ⟨a, by rw [List.append_assoc], ha⟩, ⟨c, rfl, hc⟩⟩
theorem Sp.word {w : List UInt8} {T l x : List Tk} (h : Sp (tW w :: T) l x) (v : List UInt8) : isT v l = (w == v) := by
  obtain ⟨h1, h2, -⟩ := h.head
  unfold isT
  rw [h1, h2]; rfl
theorem Sp.sign {w : List UInt8} {T l x : List Tk} (h : Sp (tS w :: T) l x) (v : List UInt8) : isT v l = (w == v) := by
  obtain ⟨h1, h2, -⟩ := h.head
  unfold isT
  rw [h1, h2]; rfl
theorem Sp.none {a : Tk} {T l x : List Tk} (h : Sp (a :: T) l x) (h2 : a.kind ≠ 2) (h8 : a.kind ≠ 8) (v : List UInt8) : isT v l = false := by
  obtain ⟨h1, -⟩ := h.head
  unfold isT
  rw [h1, beq_eq_false_iff_ne.2 h2, beq_eq_false_iff_ne.2 h8]; rfl
theorem Sp.wordStep {w : List UInt8} {T l x : List Tk} (h : Sp (tW w :: T) l x) : Sp T (stepL l) x := h.head.2.2.2 (show (2 : Int) ≠ 0 by decide)
theorem Sp.signStep {w : List UInt8} {T l x : List Tk} (h : Sp (tS w :: T) l x) : Sp T (stepL l) x := h.head.2.2.2 (show (8 : Int) ≠ 0 by decide)
theorem kind_ok {k : Int} {l : List Tk} {f : Tk → List Tk → Rd} (h : (hd l).kind = k) : kindT k l f = f (hd l) (stepL l) := if_pos h
theorem want_sign {w : List UInt8} {T l x : List Tk} {f : List Tk → Rd} (h : Sp (tS w :: T) l x) : wantT w l f = f (stepL l) := by
  unfold wantT
  rw [if_pos (by rw [h.sign]; exact beq_self_eq_true w)]
theorem want_word {w : List UInt8} {T l x : List Tk} {f : List Tk → Rd} (h : Sp (tW w :: T) l x) : wantT w l f = f (stepL l) := by
  unfold wantT
  rw [if_pos (by rw [h.word]; exact beq_self_eq_true w)]
theorem then_ok (t : Nd) (r : List Tk) (f : Nd → List Tk → Rd) : Rd.then (.ok (t, r)) f = f t r := rfl
theorem made_ok {t : Nd} {r : List Tk} (h : depthN t ≤ 100) : made t r = .ok (t, r) := if_neg (by omega)

/-- so it is read, but for places -/
def Reads (m : Md) (nest : Nat) (l x : List Tk) (u : Nd) : Prop := ∃ t, rd m nest l = .ok (t, x) ∧ strN false t = strN false u
theorem depth_same {t u : Nd} (h : strN false t = strN false u) : depthN t = depthN u := by rw [← depth_str false t, h, depth_str]

section
variable {nest : Nat} {l x : List Tk} {u : Nd}
theorem Reads.unary (h : Reads .atom nest l x u) (hl : isT tMinus l = false) : Reads .unary nest l x u := by
  obtain ⟨t, ht, hs⟩ := h
  exact ⟨t, by rw [rd_eq]; show (if _ then _ else _) = _; rw [hl, if_neg (by decide)]; exact ht, hs⟩
theorem Reads.chain {lv : Nat} (h : Reads (lower lv) nest l x u) (hx : anyT (signsT lv) x = false) : Reads (.chain lv) nest l x u := by
  obtain ⟨t, ht, hs⟩ := h
  refine ⟨t, ?_, hs⟩
  rw [rd_eq]
  show (rd (lower lv) nest l).then _ = _
  rw [ht, then_ok, rd_eq]
  show (if _ then _ else _) = _
  rw [hx, if_neg (by decide)]
theorem Reads.not (h : Reads (.chain 2) nest l x u) (hl : isT tNot l = false) (hx : anyT cmpT x = false) : Reads .not nest l x u := by
  obtain ⟨t, ht, hs⟩ := h
  refine ⟨t, ?_, hs⟩
  rw [rd_eq]
  show (if _ then _ else _) = _
  rw [hl, if_neg (by decide), ht, then_ok, hx, if_neg (by decide)]
theorem nest_ok {n : Nat} (h : n + 1 ≤ 300) (l : List Tk) (r : Rd) : nestT n l r = r := if_neg (by omega)
theorem Reads.expr (h : Reads (.chain 0) (nest + 1) l x u) (hl : isT tIf l = false) (hn : nest + 1 ≤ 300) : Reads .expr nest l x u := by
  obtain ⟨t, ht, hs⟩ := h
  refine ⟨t, ?_, hs⟩
  rw [rd_eq]
  show nestT nest l _ = _
  rw [nest_ok hn, hl, if_neg (by decide), ht]
end

/-- no word or sign that goes on with an expression stands here -/
def opsT : List (List UInt8) := [[111, 114], [97, 110, 100], [43], [45], [42], [47], [60], [60, 61], [61], tOpen]
def StopE (x : List Tk) : Prop := ∀ w ∈ opsT, isT w x = false
theorem StopE.any {x : List Tk} (h : StopE x) {ws : List (List UInt8)} (hw : ∀ w ∈ ws, w ∈ opsT) : anyT ws x = false := by
  unfold anyT
  rw [List.any_eq_false]
  exact fun w h1 => by rw [h w (hw w h1)]; decide
theorem signs_ops (lv : Nat) : ∀ w ∈ signsT lv, w ∈ opsT := by
  unfold signsT
  split
  · decide
  split
  · decide
  split <;> decide
theorem Reads.climb {nest : Nat} {l x : List Tk} {u : Nd} (h : Reads .atom (nest + 1) l x u) (h1 : isT tMinus l = false) (h2 : isT tNot l = false) (h3 : isT tIf l = false) (hx : StopE x) (hn : nest + 1 ≤ 300) : Reads .expr nest l x u :=
  (Reads.chain (lv := 0) (Reads.chain (lv := 1) (Reads.not (Reads.chain (lv := 2) (Reads.chain (lv := 3) (h.unary h1) (hx.any (signs_ops 3))) (hx.any (signs_ops 2))) h2 (hx.any (by decide))) (hx.any (signs_ops 1))) (hx.any (signs_ops 0))).expr h3 hn

def RE (u : Nd) : Prop := ∀ (nest : Nat) (l x : List Tk), Sp (toksN u) l x → StopE x → nest + 2 * depthN u ≤ 300 → Reads .expr nest l x u
def RA (u : Nd) : Prop := ¬ wrapK u.kind = true → ∀ (nest : Nat) (l x : List Tk), Sp (toksN u) l x → isT tOpen x = false → nest + 2 * depthN u ≤ 301 → Reads .atom nest l x u

theorem stop_sign {w : List UInt8} (h : w ∉ opsT) {T l x : List Tk} (hl : Sp (tS w :: T) l x) : StopE l := fun v hv => by
  rw [hl.sign, beq_eq_false_iff_ne]
  rintro rfl; exact h hv
theorem stop_word' {w : List UInt8} (h : w ∉ opsT) {T l x : List Tk} (hl : Sp (tW w :: T) l x) : StopE l := fun v hv => by
  rw [hl.word, beq_eq_false_iff_ne]
  rintro rfl; exact h hv
theorem part_reads {u : Nd} (he : RE u) (ha : RA u) {nest : Nat} {l x : List Tk} (h : Sp (partT u.kind (toksN u)) l x) (hx : isT tOpen x = false) (hn : nest + 2 * depthN u ≤ 300) : Reads .atom nest l x u := by
  unfold partT at h
  by_cases hw : wrapK u.kind = true
  · rw [if_pos hw] at h
    have hk := h.head.1
    obtain ⟨y, h1, h2⟩ := h.signStep.app
    obtain ⟨t, ht, hs⟩ := he nest _ _ h1 (stop_sign (by decide) h2) hn
    refine ⟨t, ?_, hs⟩
    have hkk : (hd l).kind = 8 := hk
    rw [rd_eq]
    show (if _ then _ else _) = _
    rw [if_neg (by rw [hkk]; decide), if_neg (by rw [hkk]; decide), if_neg (by rw [hkk]; decide), if_neg (by rw [hkk]; decide), if_neg (by rw [h.sign]; decide), if_neg (by rw [h.sign]; decide), if_neg (by rw [h.sign]; decide), if_neg (by rw [h.sign]; decide), if_pos (by rw [h.sign]; decide), ht, then_ok, want_sign h2, h2.signStep.nil]
  · rw [if_neg hw] at h
    exact ha hw nest l x h hx (by omega)

/-- a call's arguments -/
theorem args_reads : ∀ (ks acc : List Nd), (∀ k ∈ ks, RE k) → ks ≠ [] → acc.length + ks.length ≤ 8 → ∀ (nest : Nat) (l x : List Tk), Sp (argsT (ks.map toksN)) l x → nest + 2 * depthKs ks ≤ 300 →
    ∃ ts, rd (.args acc) nest l = .ok (mkN 0 [] 0 (acc ++ ts) 0, x) ∧ ts.map (strN false) = ks.map (strN false)
  | [], _, _, h, _, _, _, _, _, _ => absurd rfl h
  | [k], acc, ih, _, hlen, nest, l, x, h, hn => by
    obtain ⟨y, h1, h2⟩ := Sp.app h
    have hd1 := depth_kid [k] k (List.mem_cons_self ..)
    obtain ⟨t, ht, hs⟩ := ih k (List.mem_cons_self ..) nest l y h1 (stop_sign (by decide) h2) (by omega)
    refine ⟨[t], ?_, by rw [List.map_cons, List.map_cons, hs]⟩
    rw [rd_eq]
    show (if _ then _ else _) = _
    rw [if_neg (by simp at hlen; omega), ht, then_ok, if_neg (by rw [Sp.sign h2]; decide), want_sign h2, Sp.nil (Sp.signStep h2)]
  | k :: k' :: r, acc, ih, _, hlen, nest, l, x, h, hn => by
    obtain ⟨y, h1, h2⟩ := Sp.app h
    have hd1 := depth_kid (k :: k' :: r) k (List.mem_cons_self ..)
    have hd2 : depthKs (k' :: r) ≤ depthKs (k :: k' :: r) := by rw [depthKs]; exact Nat.le_max_right _ _
    have h2' : Sp (tS tComma :: argsT ((k' :: r).map toksN)) y x := by
      have e : commaT ((k' :: r).map toksN) ++ [tS tShut] = tS tComma :: argsT ((k' :: r).map toksN) := by
        rw [List.map_cons, commaT, List.cons_append, List.append_assoc]; rfl
      rw [← e]; exact h2
    obtain ⟨t, ht, hs⟩ := ih k (List.mem_cons_self ..) nest l y h1 (stop_sign (by decide) h2') (by omega)
    obtain ⟨ts, hts, hss⟩ := args_reads (k' :: r) (acc ++ [t]) (fun u hu => ih u (List.mem_cons_of_mem _ hu)) (by simp) (by simp at hlen ⊢; omega) nest (stepL y) x h2'.signStep (by omega)
    refine ⟨t :: ts, ?_, by rw [List.map_cons, List.map_cons, hs, hss]⟩
    rw [rd_eq]
    show (if _ then _ else _) = _
    rw [if_neg (by simp at hlen; omega), ht, then_ok, if_pos (by rw [h2'.sign]; decide), hts, List.append_assoc]; rfl

theorem strN_of {u : Nd} {k n p : Int} {s : List UInt8} {ts : List Nd} (hk : u.kind = k) (hs : u.text.data.toList = s) (hn : u.n = n) (ht : ts.map (strN false) = u.kids.map (strN false)) : strN false (mkN k s n ts p) = strN false u := by
  cases u with
  | mk k' s' n' ks' p' =>
  obtain rfl : k' = k := hk
  obtain rfl : n' = n := hn
  unfold mkN
  rw [strN, strN, strKs_map, strKs_map, ht]
  rw [show (⟨s.toArray⟩ : ByteArray) = s' from data_inj (by rw [← hs]; simp [Nd.text])]
  rfl

theorem atom_reads {u : Nd} {d : Int} (h : rightN u d = true) (hd0 : 1 ≤ d) (ih : ∀ k ∈ u.kids, RE k) : RA u := by
  intro hw nest l x hl hx hn
  obtain ⟨h1, h2, h3, h4⟩ := right_parts h
  have ha := no_atom h1 hw
  have hdep := right_depth u d h
  have hkd := depth_kids u
  rw [toks_eq] at hl
  unfold toksOf at hl
  rcases atom_cases ha with e | e | e | e | e | e | e | e
  · rw [if_pos e] at hl
    obtain ⟨k1, k2, k3, k4⟩ := hl.head
    have hk0 := kids_0 h (by omega)
    refine ⟨_, by rw [rd_eq]; show (if _ then _ else _) = _; rw [if_pos (by rw [k1]), (k4 (by decide : (6 : Int) ≠ 0)).nil], strN_of e ?_ k3.symm (by rw [hk0])⟩
    unfold textOk at h2
    rw [e] at h2
    simpa using h2
  · rw [if_neg (by omega), if_pos e] at hl
    obtain ⟨k1, k2, k3, k4⟩ := hl.head
    have hk0 := kids_0 h (by omega)
    refine ⟨_, by rw [rd_eq]; show (if _ then _ else _) = _; rw [if_neg (by rw [show (hd l).kind = 5 from k1]; decide), if_pos (by rw [k1]), (k4 (by decide : (5 : Int) ≠ 0)).nil], strN_of e ?_ k3.symm (by rw [hk0])⟩
    unfold textOk at h2
    rw [e] at h2
    simpa using h2
  · rw [if_neg (by omega), if_neg (by omega), if_pos e] at hl
    obtain ⟨k1, k2, k3, k4⟩ := hl.head
    have hk0 := kids_0 h (by omega)
    exact ⟨_, by rw [rd_eq]; show (if _ then _ else _) = _; rw [if_neg (by rw [show (hd l).kind = 4 from k1]; decide), if_neg (by rw [show (hd l).kind = 4 from k1]; decide), if_pos (by rw [k1]), (k4 (by decide : (4 : Int) ≠ 0)).nil], strN_of e k2.symm (numOk_0 h3 (by omega)) (by rw [hk0])⟩
  · rw [if_neg (by omega), if_neg (by omega), if_neg (by omega), if_pos e] at hl
    have hk0 := kids_0 h (by omega)
    have hk : (hd l).kind = 2 := hl.head.1
    have ht : u.text.data.toList = [] := by
      unfold textOk at h2
      rw [e] at h2
      simpa using h2
    have hnn : u.n = 0 ∨ u.n = 1 := by
      unfold numOk at h3
      rw [e] at h3
      simpa using h3
    rcases hnn with hnn | hnn
    · rw [hnn] at hl
      exact ⟨_, by rw [rd_eq]; show (if _ then _ else _) = _; rw [if_neg (by rw [hk]; decide), if_neg (by rw [hk]; decide), if_neg (by rw [hk]; decide), if_neg (by rw [hk]; decide), if_neg (by rw [hl.word]; decide), if_pos (by rw [hl.word]; decide), hl.wordStep.nil], strN_of e ht hnn (by rw [hk0])⟩
    · rw [hnn] at hl
      exact ⟨_, by rw [rd_eq]; show (if _ then _ else _) = _; rw [if_neg (by rw [hk]; decide), if_neg (by rw [hk]; decide), if_neg (by rw [hk]; decide), if_neg (by rw [hk]; decide), if_pos (by rw [hl.word]; decide), hl.wordStep.nil], strN_of e ht hnn (by rw [hk0])⟩
  · rw [if_neg (by omega), if_neg (by omega), if_neg (by omega), if_neg (by omega), if_pos e] at hl
    have hk0 := kids_0 h (by omega)
    have hk : (hd l).kind = 2 := hl.head.1
    have hl2 := hl.wordStep
    obtain ⟨k1, k2, k3, k4⟩ := hl2.head
    refine ⟨mkN 9 u.text.data.toList 0 [] (hd l).pos, ?_, strN_of e rfl (numOk_0 h3 (by omega)) (by rw [hk0])⟩
    rw [rd_eq]; show (if _ then _ else _) = _
    rw [if_neg (by rw [hk]; decide), if_neg (by rw [hk]; decide), if_neg (by rw [hk]; decide), if_neg (by rw [hk]; decide), if_neg (by rw [hl.word]; decide), if_neg (by rw [hl.word]; decide), if_pos (by rw [hl.word]; decide)]
    rw [kind_ok k1, (k4 (by decide : (7 : Int) ≠ 0)).nil]
    show Except.ok (mkN 9 (hd (stepL l)).text 0 [] (hd l).pos, x) = _
    rw [k2]
  · rw [if_neg (by omega), if_neg (by omega), if_neg (by omega), if_neg (by omega), if_neg (by omega), if_pos e] at hl
    have hk0 := kids_0 h (by omega)
    obtain ⟨k1, k2, k3, k4⟩ := hl.head
    have k5 : (hd l).kind = 1 ∨ (hd l).kind = 3 := by rw [k1]; unfold nameTk; simp only; split <;> simp
    have hs := (k4 (by rw [← k1]; omega)).nil
    refine ⟨mkN 10 (hd l).text 0 [] (hd l).pos, ?_, strN_of e k2.symm (numOk_0 h3 (by omega)) (by rw [hk0])⟩
    rw [rd_eq]; show (if _ then _ else _) = _
    rw [if_neg (by omega), if_neg (by omega), if_neg (by omega), if_pos k5, if_neg (by rw [hs, hx]; decide), hs]
  · rw [if_neg (by omega), if_neg (by omega), if_neg (by omega), if_neg (by omega), if_neg (by omega), if_neg (by omega), if_pos e, toksKs_snd] at hl
    obtain ⟨k1, k2, k3, k4⟩ := hl.head
    have k5 : (hd l).kind = 1 ∨ (hd l).kind = 3 := by rw [k1]; unfold nameTk; simp only; split <;> simp
    have hs := k4 (by rw [← k1]; omega)
    have hlen : u.kids.length ≤ 8 := by
      rw [e] at h1
      unfold kidsOk at h1
      have h1' : (decide (1 ≤ u.kids.length) && decide (u.kids.length ≤ 8)) = true := h1
      simp only [Bool.and_eq_true, decide_eq_true_eq] at h1'
      exact h1'.2
    obtain ⟨ts, hts, hss⟩ := args_reads u.kids [] ih (kids_pos h (.inl e)) (by simpa using hlen) nest _ x hs.signStep (by omega)
    refine ⟨mkN 11 (hd l).text 0 ts (hd l).pos, ?_, strN_of e k2.symm (numOk_0 h3 (by omega)) hss⟩
    have hsm : strN false (mkN 11 (hd l).text 0 ts (hd l).pos) = strN false u := strN_of e k2.symm (numOk_0 h3 (by omega)) hss
    rw [rd_eq]; show (if _ then _ else _) = _
    rw [if_neg (by omega), if_neg (by omega), if_neg (by omega), if_pos k5, if_pos (by rw [hs.sign]; decide), hts, then_ok]
    exact made_ok (by have := depth_same hsm; show depthN (mkN 11 (hd l).text 0 ts (hd l).pos) ≤ 100; omega)
  · rw [if_neg (by omega), if_neg (by omega), if_neg (by omega), if_neg (by omega), if_neg (by omega), if_neg (by omega), if_neg (by omega), if_pos e, toksKs_snd] at hl
    have hk : (hd l).kind = 2 := hl.head.1
    have hl2 := hl.wordStep
    obtain ⟨k1, k2, k3, k4⟩ := hl2.head
    have hl3 := k4 (by decide : (7 : Int) ≠ 0)
    have h3k : u.kids.length = 3 := by
      rw [e] at h1
      unfold kidsOk at h1
      simpa using h1
    obtain ⟨a, b, c, hkk⟩ := len3 h3k
    rw [hkk] at hl3 ih hkd
    have d1 := depth_kid [a, b, c] a (by simp)
    have d2 := depth_kid [a, b, c] b (by simp)
    have d3 := depth_kid [a, b, c] c (by simp)
    have hl4 := hl3.signStep
    obtain ⟨y, g1, g2⟩ := Sp.app hl4
    have g2' : Sp (tS tComma :: (toksN b ++ tS tComma :: (toksN c ++ [tS tShut]))) y x := by
      have e' : commaT ([b, c].map toksN) ++ [tS tShut] = tS tComma :: (toksN b ++ tS tComma :: (toksN c ++ [tS tShut])) := by simp [commaT]
      rw [← e']; exact g2
    obtain ⟨ta, ra, sa⟩ := ih a (by simp) nest _ _ g1 (stop_sign (by decide) g2') (by omega)
    obtain ⟨z, g3, g4⟩ := Sp.app g2'.signStep
    obtain ⟨tb, rb, sb⟩ := ih b (by simp) nest _ _ g3 (stop_sign (by decide) g4) (by omega)
    obtain ⟨v, g5, g6⟩ := Sp.app g4.signStep
    obtain ⟨tc, rc, sc⟩ := ih c (by simp) nest _ _ g5 (stop_sign (by decide) g6) (by omega)
    have hsm : strN false (mkN 15 (hd (stepL l)).text 0 [ta, tb, tc] (hd l).pos) = strN false u := strN_of e k2.symm (numOk_0 h3 (by omega)) (by rw [hkk, List.map_cons, List.map_cons, List.map_cons, sa, sb, sc]; rfl)
    refine ⟨mkN 15 (hd (stepL l)).text 0 [ta, tb, tc] (hd l).pos, ?_, hsm⟩
    rw [rd_eq]; show (if _ then _ else _) = _
    rw [if_neg (by rw [hk]; decide), if_neg (by rw [hk]; decide), if_neg (by rw [hk]; decide), if_neg (by rw [hk]; decide), if_neg (by rw [hl.word]; decide), if_neg (by rw [hl.word]; decide), if_neg (by rw [hl.word]; decide), if_pos (by rw [hl.word]; decide)]
    rw [kind_ok k1]
    show wantT tOpen _ _ = _
    rw [want_sign hl3, ra, then_ok, want_sign g2', rb, then_ok, want_sign g4, rc, then_ok, want_sign g6, g6.signStep.nil]
    exact made_ok (by have := depth_same hsm; omega)

/-- how a part begins -/
theorem part_head {u : Nd} {d : Int} (h : rightN u d = true) {l x : List Tk} (hl : Sp (partT u.kind (toksN u)) l x) : isT tMinus l = false ∧ isT tNot l = false ∧ isT tIf l = false := by
  unfold partT at hl
  by_cases hw : wrapK u.kind = true
  · rw [if_pos hw] at hl
    rw [hl.sign, hl.sign, hl.sign]
    decide
  rw [if_neg hw, toks_eq] at hl
  unfold toksOf at hl
  have hnm : ∀ s, (nameTk s).kind ≠ 2 ∧ (nameTk s).kind ≠ 8 := fun s => by unfold nameTk; simp only; split <;> decide
  rcases atom_cases (no_atom (right_parts h).1 hw) with e | e | e | e | e | e | e | e
  · rw [if_pos e] at hl
    exact ⟨hl.none (show (6 : Int) ≠ 2 by decide) (show (6 : Int) ≠ 8 by decide) _, hl.none (show (6 : Int) ≠ 2 by decide) (show (6 : Int) ≠ 8 by decide) _, hl.none (show (6 : Int) ≠ 2 by decide) (show (6 : Int) ≠ 8 by decide) _⟩
  · rw [if_neg (by omega), if_pos e] at hl
    exact ⟨hl.none (show (5 : Int) ≠ 2 by decide) (show (5 : Int) ≠ 8 by decide) _, hl.none (show (5 : Int) ≠ 2 by decide) (show (5 : Int) ≠ 8 by decide) _, hl.none (show (5 : Int) ≠ 2 by decide) (show (5 : Int) ≠ 8 by decide) _⟩
  · rw [if_neg (by omega), if_neg (by omega), if_pos e] at hl
    exact ⟨hl.none (by show (4 : Int) ≠ 2; decide) (by show (4 : Int) ≠ 8; decide) _, hl.none (by show (4 : Int) ≠ 2; decide) (by show (4 : Int) ≠ 8; decide) _, hl.none (by show (4 : Int) ≠ 2; decide) (by show (4 : Int) ≠ 8; decide) _⟩
  · rw [if_neg (by omega), if_neg (by omega), if_neg (by omega), if_pos e] at hl
    rw [hl.word, hl.word, hl.word]
    split <;> decide
  · rw [if_neg (by omega), if_neg (by omega), if_neg (by omega), if_neg (by omega), if_pos e] at hl
    rw [hl.word, hl.word, hl.word]
    decide
  · rw [if_neg (by omega), if_neg (by omega), if_neg (by omega), if_neg (by omega), if_neg (by omega), if_pos e] at hl
    exact ⟨hl.none (hnm _).1 (hnm _).2 _, hl.none (hnm _).1 (hnm _).2 _, hl.none (hnm _).1 (hnm _).2 _⟩
  · rw [if_neg (by omega), if_neg (by omega), if_neg (by omega), if_neg (by omega), if_neg (by omega), if_neg (by omega), if_pos e] at hl
    exact ⟨hl.none (hnm _).1 (hnm _).2 _, hl.none (hnm _).1 (hnm _).2 _, hl.none (hnm _).1 (hnm _).2 _⟩
  · rw [if_neg (by omega), if_neg (by omega), if_neg (by omega), if_neg (by omega), if_neg (by omega), if_neg (by omega), if_neg (by omega), if_pos e] at hl
    rw [hl.word, hl.word, hl.word]
    decide

end Go.Proofs.YtcndknkdhlmdnaaGreatDoor
