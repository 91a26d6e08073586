/-
  Texts that the statements' proofs rest on, one behind another: SynO, SynP, ShowH, DateF, DateI, NumR, DateJ.
-/
import Derived.Test.YtcndknkdhlmdnaaGreatDoorS07
import Derived.Test.YtcndknkdhlmdnaaGreatDoorS04
import Derived.Test.YtcndknkdhlmdnaaGreatDoorS03
import Derived.Test.YtcndknkdhlmdnaaGreatDoorS02
import Derived.Deep.DrawnRows
import Derived.Test.YtcndknkdhlmdnaaGreatDoorS01
import Derived.WalkSmall
import Derived.Deep.RegionWith

/-
  Nests and depths: how many are read (no program in sight).
-/
namespace Go.Proofs.YtcndknkdhlmdnaaGreatDoor
set_option maxRecDepth 100000

/-- where an atom stands, an expression does -/
theorem climb {nest : Nat} {l : List Tk} (h1 : isT tIf l = false) (h2 : isT tNot l = false) (h3 : isT tMinus l = false) (hn : nest + 1 ≤ 300) : rd .expr nest l = (((((rd .atom (nest + 1) l).then fun t r => rd (.loop 3 t) (nest + 1) r).then fun t r => rd (.loop 2 t) (nest + 1) r).then fun a r => if anyT cmpT r = true then (rd (.chain 2) (nest + 1) (stepL r)).then fun b r' => made (mkN 13 (hd r).text 0 [a, b] (hd r).pos) r' else .ok (a, r)).then fun t r => rd (.loop 1 t) (nest + 1) r).then fun t r => rd (.loop 0 t) (nest + 1) r := by
  have e1 : rd .expr nest l = rd (.chain 0) (nest + 1) l := by
    rw [rd_eq]
    show nestT nest l _ = _
    unfold nestT
    rw [if_neg (by omega), if_neg (by rw [h1]; decide)]
  have ch : ∀ lv n l, rd (.chain lv) n l = (rd (lower lv) n l).then fun t r => rd (.loop lv t) n r := fun lv n l => by rw [rd_eq]; rfl
  have e2 : rd .not (nest + 1) l = (rd (.chain 2) (nest + 1) l).then fun a r => if anyT cmpT r = true then (rd (.chain 2) (nest + 1) (stepL r)).then fun b r' => made (mkN 13 (hd r).text 0 [a, b] (hd r).pos) r' else .ok (a, r) := by
    rw [rd_eq]
    show (if isT tNot l = true then _ else _) = _
    rw [if_neg (by rw [h2]; decide)]
  have e3 : rd .unary (nest + 1) l = rd .atom (nest + 1) l := by
    rw [rd_eq]
    show (if isT tMinus l = true then _ else _) = _
    rw [if_neg (by rw [h3]; decide)]
  rw [e1, ch 0, show lower 0 = .chain 1 from rfl, ch 1, show lower 1 = .not from rfl, e2, ch 2, show lower 2 = .chain 3 from rfl, ch 3, show lower 3 = .unary from rfl, e3]
theorem climb_err {nest : Nat} {l : List Tk} (h1 : isT tIf l = false) (h2 : isT tNot l = false) (h3 : isT tMinus l = false) (hn : nest + 1 ≤ 300) {e : Int × Int} (h : rd .atom (nest + 1) l = .error e) : rd .expr nest l = .error e := by
  rw [climb h1 h2 h3 hn, h]; rfl
theorem loop_stop {lv n : Nat} {t : Nd} {x : List Tk} (h : anyT (signsT lv) x = false) : rd (.loop lv t) n x = .ok (t, x) := by
  rw [rd_eq]
  show (if anyT (signsT lv) x = true then _ else _) = _
  rw [if_neg (by rw [h]; decide)]
theorem climb_ok {nest : Nat} {l x : List Tk} (h1 : isT tIf l = false) (h2 : isT tNot l = false) (h3 : isT tMinus l = false) (hn : nest + 1 ≤ 300) {t : Nd} (h : rd .atom (nest + 1) l = .ok (t, x)) (hx : StopE x) : rd .expr nest l = .ok (t, x) := by
  rw [climb h1 h2 h3 hn, h]
  show ((((rd (.loop 3 t) (nest + 1) x).then fun t r => rd (.loop 2 t) (nest + 1) r).then fun a r => if anyT cmpT r = true then (rd (.chain 2) (nest + 1) (stepL r)).then fun b r' => made (mkN 13 (hd r).text 0 [a, b] (hd r).pos) r' else .ok (a, r)).then fun t r => rd (.loop 1 t) (nest + 1) r).then (fun t r => rd (.loop 0 t) (nest + 1) r) = _
  rw [loop_stop (hx.any (signs_ops 3))]
  show (((rd (.loop 2 t) (nest + 1) x).then fun a r => if anyT cmpT r = true then (rd (.chain 2) (nest + 1) (stepL r)).then fun b r' => made (mkN 13 (hd r).text 0 [a, b] (hd r).pos) r' else .ok (a, r)).then fun t r => rd (.loop 1 t) (nest + 1) r).then (fun t r => rd (.loop 0 t) (nest + 1) r) = _
  rw [loop_stop (hx.any (signs_ops 2))]
  show ((((if anyT cmpT x = true then (rd (.chain 2) (nest + 1) (stepL x)).then fun b r' => made (mkN 13 (hd x).text 0 [t, b] (hd x).pos) r' else Except.ok (t, x)) : Rd).then fun t r => rd (.loop 1 t) (nest + 1) r).then (fun t r => rd (.loop 0 t) (nest + 1) r)) = _
  rw [if_neg (by rw [hx.any (by decide : ∀ w ∈ cmpT, w ∈ opsT)]; decide)]
  show (rd (.loop 1 t) (nest + 1) x).then (fun t r => rd (.loop 0 t) (nest + 1) r) = _
  rw [loop_stop (hx.any (signs_ops 1))]
  show rd (.loop 0 t) (nest + 1) x = _
  exact loop_stop (hx.any (signs_ops 0))
def opK : Nat → Int → List Tk
  | 0, _ => []
  | k + 1, p => ⟨8, [40], 0, p⟩ :: opK k (p + 1)
def shK : Nat → Int → List Tk
  | 0, _ => []
  | k + 1, p => ⟨8, [41], 0, p⟩ :: shK k (p + 1)
def parK (k : Nat) (p q : Int) (x : List Tk) : List Tk := opK k p ++ (⟨6, [], 1000000, p + k⟩ :: (shK k q ++ x))
theorem shK_snoc : ∀ (k : Nat) (q : Int), shK (k + 1) q = shK k q ++ [⟨8, [41], 0, q + k⟩]
  | 0, q => by simp [shK]
  | k + 1, q => by
    rw [shK, shK_snoc k (q + 1), shK, List.cons_append]
    congr 3
    simp; omega
theorem stopE_tk {a : Tk} {l : List Tk} (h : a.kind ≠ 2 ∧ a.kind ≠ 8 ∨ ∀ w ∈ opsT, (a.text == w) = false) : StopE (a :: l) := fun w hw => by
  rw [isT_cons]
  rcases h with ⟨h2, h8⟩ | h
  · rw [show (a.kind == 2) = false from beq_eq_false_iff_ne.2 h2, show (a.kind == 8) = false from beq_eq_false_iff_ne.2 h8]; rfl
  · rw [h w hw, Bool.and_false]
theorem stop_shut (q : Int) (l : List Tk) : StopE (⟨8, [41], 0, q⟩ :: l) := stopE_tk (.inr (show ∀ w ∈ opsT, (([41] : List UInt8) == w) = false by decide))
theorem atom_openK (n : Nat) (p : Int) (l : List Tk) : rd .atom n (⟨8, [40], 0, p⟩ :: l) = (rd .expr n l).then fun x r => wantT tShut r fun r => .ok (x, r) := by
  rw [rd_eq]; rfl
theorem atom_numK (n : Nat) (v p : Int) (l : List Tk) : rd .atom n (⟨6, [], v, p⟩ :: l) = .ok (mkN 5 [] v [] p, l) := by
  rw [rd_eq]; rfl
theorem par_read : ∀ (k nest : Nat) (p q : Int) (x : List Tk), nest ≤ 300 → StopE x → rd .expr nest (parK k p q x) = if nest + k + 1 ≤ 300 then .ok (mkN 5 [] 1000000 [] (p + k), x) else .error (75, p + (300 - nest : Nat))
  | 0, nest, p, q, x, hn, hx => by
    show rd .expr nest (⟨6, [], 1000000, p + (0 : Nat)⟩ :: x) = _
    by_cases h : nest + 1 ≤ 300
    · rw [if_pos (by omega)]
      exact climb_ok (isT_end' rfl) (isT_end' rfl) (isT_end' rfl) h (atom_numK _ _ _ _) hx
    · rw [if_neg (by omega), rd_eq]
      show nestT nest _ _ = _
      unfold nestT
      rw [if_pos (by omega)]
      show Except.error (75, p + (0 : Nat)) = _
      congr 2
      simp; omega
  | k + 1, nest, p, q, x, hn, hx => by
    have e : parK (k + 1) p q x = ⟨8, [40], 0, p⟩ :: parK k (p + 1) q (⟨8, [41], 0, q + k⟩ :: x) := by
      unfold parK
      rw [opK, shK_snoc, List.append_assoc, List.cons_append]
      congr 4
      simp; omega
    rw [e]
    by_cases h : nest + 1 ≤ 300
    · have ih := par_read k (nest + 1) (p + 1) q (⟨8, [41], 0, q + k⟩ :: x) h (stop_shut _ _)
      have ha := atom_openK (nest + 1) p (parK k (p + 1) q (⟨8, [41], 0, q + k⟩ :: x))
      rw [ih] at ha
      by_cases h2 : nest + (k + 1) + 1 ≤ 300
      · rw [if_pos (by omega)] at ha
        rw [if_pos h2]
        have hb : rd .atom (nest + 1) (⟨8, [40], 0, p⟩ :: parK k (p + 1) q (⟨8, [41], 0, q + k⟩ :: x)) = .ok (mkN 5 [] 1000000 [] (p + 1 + k), x) := ha
        rw [climb_ok (by rfl) (by rfl) (by rfl) h hb hx]
        congr 3
        simp; omega
      · rw [if_neg (by omega)] at ha
        rw [if_neg h2]
        have hb : rd .atom (nest + 1) (⟨8, [40], 0, p⟩ :: parK k (p + 1) q (⟨8, [41], 0, q + k⟩ :: x)) = .error (75, p + 1 + (300 - (nest + 1) : Nat)) := ha
        rw [climb_err (by rfl) (by rfl) (by rfl) h hb]
        congr 2
        omega
    · rw [if_neg (by omega), rd_eq]
      show nestT nest _ _ = _
      unfold nestT
      rw [if_pos (by omega)]
      show Except.error (75, p) = _
      rw [show (300 - nest : Nat) = 0 by omega]
      simp
where isT_end' {w : List UInt8} {v p : Int} {l : List Tk} {s : List UInt8} (h : s = s) : isT w (⟨6, s, v, p⟩ :: l) = false := rfl

end Go.Proofs.YtcndknkdhlmdnaaGreatDoor

/-
  Depths: how many are read; the texts of parentheses and of sums (no program in sight).
-/
namespace Go.Proofs.YtcndknkdhlmdnaaGreatDoor
set_option maxRecDepth 100000

def nT (p : Int) : Tk := ⟨6, [], 1000000, p⟩
def pT (p : Int) : Tk := ⟨8, [43], 0, p⟩
def sumK : Nat → Int → List Tk
  | 0, _ => []
  | k + 1, p => pT p :: nT (p + 2) :: sumK k (p + 4)
theorem stop3_sum (k : Nat) (p : Int) {x : List Tk} (hx : StopE x) : anyT (signsT 3) (sumK k p ++ x) = false := by
  cases k with
  | zero => exact hx.any (signs_ops 3)
  | succ k => rfl
theorem prod_num (n : Nat) (p : Int) {r : List Tk} (h : anyT (signsT 3) r = false) : rd (.chain 3) n (nT p :: r) = .ok (mkN 5 [] 1000000 [] p, r) := by
  have e1 : rd (.chain 3) n (nT p :: r) = (rd .unary n (nT p :: r)).then fun t r => rd (.loop 3 t) n r := by rw [rd_eq]; rfl
  have e2 : rd .unary n (nT p :: r) = rd .atom n (nT p :: r) := by rw [rd_eq]; rfl
  rw [e1, e2, show nT p = ⟨6, [], 1000000, p⟩ from rfl, atom_numK]
  exact loop_stop h
theorem depth_num (p : Int) : depthN (mkN 5 [] 1000000 [] p) = 1 := by unfold mkN; rw [depthN, depthKs]
theorem depth_pos (t : Nd) : 1 ≤ depthN t := by cases t; rw [depthN]; omega
theorem depth_two {t m : Nd} (hm : depthN m = 1) (p : Int) : depthN (mkN 13 [43] 0 [t, m] p) = depthN t + 1 := by
  unfold mkN
  have := depth_pos t
  rw [depthN, depthKs, depthKs, depthKs, hm]; omega
theorem sum_loop : ∀ (k n : Nat) (t : Nd) (p : Int) (x : List Tk), depthN t ≤ 100 → StopE x →
    (depthN t + k ≤ 100 → ∃ u, rd (.loop 2 t) n (sumK k p ++ x) = .ok (u, x)) ∧ (100 < depthN t + k → rd (.loop 2 t) n (sumK k p ++ x) = .error (75, p + 4 * ((100 - depthN t : Nat) : Int)))
  | 0, n, t, p, x, hd, hx => by
    refine ⟨fun _ => ⟨t, loop_stop (hx.any (signs_ops 2))⟩, fun h => by omega⟩
  | k + 1, n, t, p, x, hd, hx => by
    have hm := depth_num (p + 2)
    have hdt := depth_two (t := t) hm p
    have e : rd (.loop 2 t) n (sumK (k + 1) p ++ x) = (made (mkN 13 [43] 0 [t, mkN 5 [] 1000000 [] (p + 2)] p) (sumK k (p + 4) ++ x)).then fun t r => rd (.loop 2 t) n r := by
      have e0 : rd (.loop 2 t) n (sumK (k + 1) p ++ x) = (rd (.chain 3) n (nT (p + 2) :: (sumK k (p + 4) ++ x))).then fun m r => (made (mkN 13 [43] 0 [t, m] p) r).then fun t r => rd (.loop 2 t) n r := by
        rw [rd_eq]; rfl
      rw [e0, prod_num n (p + 2) (stop3_sum k (p + 4) hx)]
      rfl
    rw [e]
    by_cases h : depthN t + 1 ≤ 100
    · have ih := sum_loop k n (mkN 13 [43] 0 [t, mkN 5 [] 1000000 [] (p + 2)] p) (p + 4) x (by omega) hx
      have em : made (mkN 13 [43] 0 [t, mkN 5 [] 1000000 [] (p + 2)] p) (sumK k (p + 4) ++ x) = .ok (mkN 13 [43] 0 [t, mkN 5 [] 1000000 [] (p + 2)] p, sumK k (p + 4) ++ x) := by
        unfold Go.Proofs.YtcndknkdhlmdnaaGreatDoor.made
        rw [if_neg (by omega)]
      rw [em]
      rw [hdt] at ih
      refine ⟨fun hk => ?_, fun hk => ?_⟩
      · exact ih.1 (by omega)
      · have := ih.2 (by omega)
        refine this.trans ?_
        congr 2
        omega
    · refine ⟨fun hk => by omega, fun _ => ?_⟩
      have em : made (mkN 13 [43] 0 [t, mkN 5 [] 1000000 [] (p + 2)] p) (sumK k (p + 4) ++ x) = .error (75, p) := by
        unfold Go.Proofs.YtcndknkdhlmdnaaGreatDoor.made
        rw [if_pos (by omega)]
        rfl
      rw [em]
      show Except.error (75, p) = _
      rw [show (100 - depthN t : Nat) = 0 by omega]
      simp
theorem sum_read (n : Nat) (x : List Tk) (hx : StopE x) :
    (n + 1 ≤ 100 → ∃ u, rd .expr 0 (nT 0 :: (sumK n 2 ++ x)) = .ok (u, x)) ∧ (100 < n + 1 → rd .expr 0 (nT 0 :: (sumK n 2 ++ x)) = .error (75, 398)) := by
  have hc := climb (nest := 0) (l := nT 0 :: (sumK n 2 ++ x)) rfl rfl rfl (by decide)
  have ha := atom_numK (0 + 1) 1000000 0 (sumK n 2 ++ x)
  rw [show (⟨6, [], 1000000, 0⟩ : Tk) = nT 0 from rfl] at ha
  rw [ha] at hc
  have hl := sum_loop n (0 + 1) (mkN 5 [] 1000000 [] 0) 2 x (by rw [depth_num]; decide) hx
  rw [depth_num] at hl
  have h3 : rd (.loop 3 (mkN 5 [] 1000000 [] 0)) (0 + 1) (sumK n 2 ++ x) = .ok (mkN 5 [] 1000000 [] 0, sumK n 2 ++ x) := loop_stop (stop3_sum n 2 hx)
  replace hc : rd .expr 0 (nT 0 :: (sumK n 2 ++ x)) = (((((rd (.loop 3 (mkN 5 [] 1000000 [] 0)) (0 + 1) (sumK n 2 ++ x)).then fun t r => rd (.loop 2 t) (0 + 1) r).then fun a r => if anyT cmpT r = true then (rd (.chain 2) (0 + 1) (stepL r)).then fun b r' => made (mkN 13 (hd r).text 0 [a, b] (hd r).pos) r' else .ok (a, r)).then fun t r => rd (.loop 1 t) (0 + 1) r).then fun t r => rd (.loop 0 t) (0 + 1) r) := hc
  rw [h3] at hc
  replace hc : rd .expr 0 (nT 0 :: (sumK n 2 ++ x)) = ((((rd (.loop 2 (mkN 5 [] 1000000 [] 0)) (0 + 1) (sumK n 2 ++ x)).then fun a r => if anyT cmpT r = true then (rd (.chain 2) (0 + 1) (stepL r)).then fun b r' => made (mkN 13 (hd r).text 0 [a, b] (hd r).pos) r' else .ok (a, r)).then fun t r => rd (.loop 1 t) (0 + 1) r).then fun t r => rd (.loop 0 t) (0 + 1) r) := hc
  refine ⟨fun h => ?_, fun h => ?_⟩
  · obtain ⟨u, hu⟩ := hl.1 (by omega)
    refine ⟨u, ?_⟩
    rw [hc, hu]
    show ((((if anyT cmpT x = true then (rd (.chain 2) (0 + 1) (stepL x)).then fun b r' => made (mkN 13 (hd x).text 0 [u, b] (hd x).pos) r' else Except.ok (u, x)) : Rd).then fun t r => rd (.loop 1 t) (0 + 1) r).then (fun t r => rd (.loop 0 t) (0 + 1) r)) = _
    rw [if_neg (by rw [hx.any (by decide : ∀ w ∈ cmpT, w ∈ opsT)]; decide)]
    show (rd (.loop 1 u) (0 + 1) x).then (fun t r => rd (.loop 0 t) (0 + 1) r) = _
    rw [loop_stop (hx.any (signs_ops 1))]
    exact loop_stop (hx.any (signs_ops 0))
  · have he := hl.2 (by omega)
    rw [hc, he]
    rfl
theorem date_no1 (c : UInt8) (r : List UInt8) (h : dgC c = false) : dateAt (49 :: c :: r) = false := by
  rw [date_pat]
  show (dgC 49 && ((if true = true then dgC c else c == 45) && _)) = false
  rw [if_pos rfl, h, Bool.false_and, Bool.and_false]
theorem one_end (p : Int) : tokS 49 [] p = .ok (nT p, 1) := rfl
theorem one_shut (r : List UInt8) (p : Int) : tokS 49 (41 :: r) p = .ok (nT p, 1) :=
  tok_ctx (c := 49) (r := [41]) (r' := 41 :: r) (p := p) (t := nT p) (n := 1) rfl rfl (.inl rfl) (fun h => by rw [date_no1 41 r (by decide)] at h; cases h) p
theorem one_blank (r : List UInt8) (p : Int) : tokS 49 (32 :: r) p = .ok (nT p, 1) :=
  tok_ctx (c := 49) (r := [32]) (r' := 32 :: r) (p := p) (t := nT p) (n := 1) rfl rfl (.inl rfl) (fun h => by rw [date_no1 32 r (by decide)] at h; cases h) p
theorem shut_scan : ∀ (k : Nat) (q : Int), Scan (List.replicate k 41) q (shK k q ++ [⟨0, [], 0, q + k⟩])
  | 0, q => by rw [show q + ((0 : Nat) : Int) = q by simp]; exact .fin q
  | k + 1, q => by
    have h := shut_scan k (q + 1)
    rw [show q + 1 + (k : Int) = q + ((k + 1 : Nat) : Int) by omega] at h
    exact .tok (n := 1) (by decide) (by decide) rfl h
theorem one_scan (k : Nat) (p : Int) : Scan (49 :: List.replicate k 41) p (nT p :: (shK k (p + 1) ++ [⟨0, [], 0, p + 1 + k⟩])) := by
  cases k with
  | zero => exact .tok (n := 1) (by decide) (by decide) (one_end p) (shut_scan 0 (p + 1))
  | succ k => exact .tok (n := 1) (by decide) (by decide) (one_shut _ p) (shut_scan (k + 1) (p + 1))
theorem par_scan : ∀ (k m : Nat) (p : Int), Scan (List.replicate k 40 ++ 49 :: List.replicate m 41) p (opK k p ++ (nT (p + k) :: (shK m (p + k + 1) ++ [⟨0, [], 0, p + k + 1 + m⟩])))
  | 0, m, p => by rw [show p + ((0 : Nat) : Int) = p by simp]; exact one_scan m p
  | k + 1, m, p => by
    have h := par_scan k m (p + 1)
    rw [show p + 1 + (k : Int) = p + ((k + 1 : Nat) : Int) by omega] at h
    exact .tok (n := 1) (by decide) (by decide) rfl h
def sumB : Nat → List UInt8
  | 0 => [49]
  | k + 1 => 49 :: 32 :: 43 :: 32 :: sumB k
theorem sum_scan : ∀ (k : Nat) (p : Int), Scan (sumB k) p (nT p :: (sumK k (p + 2) ++ [⟨0, [], 0, p + 4 * k + 1⟩]))
  | 0, p => by rw [show p + 4 * ((0 : Nat) : Int) + 1 = p + 1 by omega]; exact .tok (n := 1) (by decide) (by decide) (one_end p) (.fin _)
  | k + 1, p => by
    have h := sum_scan k (p + 2 + 2)
    rw [show p + 2 + 2 + 4 * (k : Int) + 1 = p + 4 * ((k + 1 : Nat) : Int) + 1 by omega] at h
    refine .tok (n := 1) (by decide) (by decide) (one_blank _ p) ?_
    refine .blank (by decide) ?_
    rw [show p + (1 : Nat) + 1 = p + 2 by omega]
    refine .tok (n := 1) (by decide) (by decide) rfl ?_
    refine .blank (by decide) ?_
    rw [show p + 2 + (1 : Nat) + 1 = p + 2 + 2 by omega]
    rw [show p + 2 + 2 + 2 = p + 2 + 4 by omega] at h
    exact h
theorem sumB_flat : ∀ k, (List.replicate k ([49, 32, 43, 32] : List UInt8)).flatten ++ [49] = sumB k
  | 0 => rfl
  | k + 1 => by rw [List.replicate_succ, List.flatten_cons, List.append_assoc, sumB_flat k]; rfl
theorem one_flat (c : UInt8) : ∀ k, (List.replicate k ([c] : List UInt8)).flatten = List.replicate k c
  | 0 => rfl
  | k + 1 => by rw [List.replicate_succ, List.flatten_cons, one_flat c k]; rfl
theorem nil_flat : ∀ k, (List.replicate k ([] : List UInt8)).flatten = []
  | 0 => rfl
  | k + 1 => by rw [List.replicate_succ, List.flatten_cons, nil_flat k]; rfl
/-- so many of a text, a one, and as many of another -/
def opensL (n : Nat) (a b : List UInt8) : List UInt8 := (List.replicate n a).flatten ++ 49 :: (List.replicate n b).flatten
theorem opK_len : ∀ (k : Nat) (p : Int), (opK k p).length = k
  | 0, _ => rfl
  | k + 1, p => by rw [opK, List.length_cons, opK_len k]
theorem shK_len : ∀ (k : Nat) (p : Int), (shK k p).length = k
  | 0, _ => rfl
  | k + 1, p => by rw [shK, List.length_cons, shK_len k]
theorem sumK_len : ∀ (k : Nat) (p : Int), (sumK k p).length = 2 * k
  | 0, _ => rfl
  | k + 1, p => by rw [sumK, List.length_cons, List.length_cons, sumK_len k]; omega
theorem sumB_len : ∀ (k : Nat), (sumB k).length = 4 * k + 1
  | 0 => rfl
  | k + 1 => by rw [sumB, List.length_cons, List.length_cons, List.length_cons, List.length_cons, sumB_len k]; omega
theorem stop_fin (p : Int) : StopE [⟨0, [], 0, p⟩] := stopE_tk (.inl (show (0 : Int) ≠ 2 ∧ (0 : Int) ≠ 8 by decide))
theorem deep_scan (n : Nat) (h : n ≤ 400) : scanT (opensL n [40] [41]) = .ok (parK n 0 (n + 1) [⟨0, [], 0, n + 1 + n⟩]) := by
  have hs := par_scan n n 0
  unfold opensL parK
  rw [one_flat, one_flat]
  rw [Int.zero_add] at hs ⊢
  refine hs.text ?_ ?_
  · rw [List.length_append, List.length_cons, List.length_replicate, List.length_replicate]; omega
  · rw [List.length_append, List.length_cons, List.length_append, opK_len, shK_len, List.length_singleton]; omega
theorem deep_read (n : Nat) : rd .expr 0 (parK n 0 (n + 1) [⟨0, [], 0, n + 1 + n⟩]) = if n + 1 ≤ 300 then .ok (mkN 5 [] 1000000 [] (0 + n), [⟨0, [], 0, n + 1 + n⟩]) else .error (75, 300) := by
  have := par_read n 0 0 (n + 1) _ (by decide) (stop_fin (n + 1 + n))
  rw [this]
  by_cases h : n + 1 ≤ 300
  · rw [if_pos (by omega), if_pos h]
  · rw [if_neg (by omega), if_neg h]; rfl
theorem wide_scan (n : Nat) (h : n ≤ 400) : scanT (opensL n [49, 32, 43, 32] []) = .ok (nT 0 :: (sumK n 2 ++ [⟨0, [], 0, 4 * n + 1⟩])) := by
  have hs := sum_scan n 0
  rw [Int.zero_add, Int.zero_add] at hs
  have e : opensL n [49, 32, 43, 32] [] = sumB n := by unfold opensL; rw [nil_flat, sumB_flat]
  rw [e]
  refine hs.text ?_ ?_
  · rw [sumB_len]; omega
  · rw [List.length_cons, List.length_append, sumK_len, List.length_singleton]; omega
end Go.Proofs.YtcndknkdhlmdnaaGreatDoor

/-
  num.Show: a number's text.
-/
namespace Go.Proofs.YtcndknkdhlmdnaaGreatDoor
open Go.RowKit Go.Shelf
set_option maxRecDepth 100000

end Go.Proofs.YtcndknkdhlmdnaaGreatDoor

/-
  The walks of a date's text, written: of the program and of the document's answer.
-/
namespace Go.Proofs.YtcndknkdhlmdnaaGreatDoor
open Go.RowKit
set_option maxRecDepth 100000

end Go.Proofs.YtcndknkdhlmdnaaGreatDoor

/-
  The walk of the document's answer for reading a date: digits, and a text.
-/
namespace Go.Proofs.YtcndknkdhlmdnaaGreatDoor
open Go.RowKit
set_option maxRecDepth 100000

/-- what three numbers are as a date: the day, and the error's number -/
def ofV (y m d : Int) : Int := if Cal.ok y m d then Cal.num y m d else 0
def ofE (y m d : Int) : Int := if Cal.ok y m d then 0 else 30
end Go.Proofs.YtcndknkdhlmdnaaGreatDoor

/-
  usanceref01.Parse, of texts that begin with a digit.
-/
namespace Go.Proofs.YtcndknkdhlmdnaaGreatDoor
open Go.RowKit
set_option maxRecDepth 100000

end Go.Proofs.YtcndknkdhlmdnaaGreatDoor

/-
  The walk of the program's own reading of a date.
-/
namespace Go.Proofs.YtcndknkdhlmdnaaGreatDoor
open Go.RowKit
set_option maxRecDepth 100000

set_option maxHeartbeats 1000000 in
theorem parse_len (s : ByteArray) (w : World) (hs : ¬ s.size = 10) :
    Calls Tryz.prog 179 #[.string s] w fun e w' => e = .returned (.tuple #[.int .i64 0, .int .i64 30]) ∧ Below w.heap.size w w' := by
  go_enter Tryz.func179, Tryz.ntmps179
  go_wp2
  go_ret2
  exact ⟨rfl, below1 _ _⟩
/-- the memory of the reading's loop: three numbers, and the text's bytes -/
def PInv (s : ByteArray) (B : Nat) (a b c : Int) (w wr : World) : Prop :=
  Below B w wr ∧ (∀ j (hj : j < s.size), wr.cell? ⟨B + 1, j, none⟩ = some (.int .u8 (s[j].toNat : Int))) ∧
  wr.cell? ⟨B, 0, none⟩ = some (.int .i64 a) ∧ wr.cell? ⟨B, 1, none⟩ = some (.int .i64 b) ∧ wr.cell? ⟨B, 2, none⟩ = some (.int .i64 c) ∧
  (∀ j, wr.frozen? ⟨B, j, none⟩ = false)
theorem PInv.set0 {s : ByteArray} {B : Nat} {a b c x : Int} {w wr : World} (h : PInv s B a b c w wr) : PInv s B x b c w (wr.setCell ⟨B, 0, none⟩ (.int .i64 x)) := by
  obtain ⟨h1, h2, h3, h4, h5, h6⟩ := h
  refine ⟨h1.setCell (Nat.le_refl _) _, fun j hj => ?_, World.cell?_setCell_same _ _ _ h3, ?_, ?_, fun j => by rw [World.frozen?_setCell]; exact h6 j⟩
  · rw [World.cell?_setCell_other _ _ _ _ (by simp)]; exact h2 j hj
  · rw [World.cell?_setCell_other _ _ _ _ (by simp)]; exact h4
  · rw [World.cell?_setCell_other _ _ _ _ (by simp)]; exact h5
theorem PInv.set1 {s : ByteArray} {B : Nat} {a b c x : Int} {w wr : World} (h : PInv s B a b c w wr) : PInv s B a x c w (wr.setCell ⟨B, 1, none⟩ (.int .i64 x)) := by
  obtain ⟨h1, h2, h3, h4, h5, h6⟩ := h
  refine ⟨h1.setCell (Nat.le_refl _) _, fun j hj => ?_, ?_, World.cell?_setCell_same _ _ _ h4, ?_, fun j => by rw [World.frozen?_setCell]; exact h6 j⟩
  · rw [World.cell?_setCell_other _ _ _ _ (by simp)]; exact h2 j hj
  · rw [World.cell?_setCell_other _ _ _ _ (by simp)]; exact h3
  · rw [World.cell?_setCell_other _ _ _ _ (by simp)]; exact h5
theorem PInv.set2 {s : ByteArray} {B : Nat} {a b c x : Int} {w wr : World} (h : PInv s B a b c w wr) : PInv s B a b x w (wr.setCell ⟨B, 2, none⟩ (.int .i64 x)) := by
  obtain ⟨h1, h2, h3, h4, h5, h6⟩ := h
  refine ⟨h1.setCell (Nat.le_refl _) _, fun j hj => ?_, ?_, ?_, World.cell?_setCell_same _ _ _ h5, fun j => by rw [World.frozen?_setCell]; exact h6 j⟩
  · rw [World.cell?_setCell_other _ _ _ _ (by simp)]; exact h2 j hj
  · rw [World.cell?_setCell_other _ _ _ _ (by simp)]; exact h3
  · rw [World.cell?_setCell_other _ _ _ _ (by simp)]; exact h4
/-- as the loop begins -/
theorem PInv.start (s : ByteArray) (w : World) (cap : Nat) : PInv s w.heap.size 0 0 0 w
    ((w.alloc (.cells #[.int .i64 0, .int .i64 0, .int .i64 0] 186)).drew.alloc (.cells (bytesRow s cap) 5 ((bytesRow s cap).size, (bytesRow s cap).size + 1))) := by
  have hsz : (w.alloc (.cells #[.int .i64 0, .int .i64 0, .int .i64 0] 186)).drew.heap.size = w.heap.size + 1 := by show (w.heap.push _).size = _; simp
  have old : ∀ j, ((w.alloc (.cells #[.int .i64 0, .int .i64 0, .int .i64 0] 186)).drew.alloc (.cells (bytesRow s cap) 5 ((bytesRow s cap).size, (bytesRow s cap).size + 1))).cell? ⟨w.heap.size, j, none⟩ = (w.alloc (.cells #[.int .i64 0, .int .i64 0, .int .i64 0] 186)).cell? ⟨w.heap.size, j, none⟩ := fun j =>
    World.cell?_of_block (w := (w.alloc (.cells #[.int .i64 0, .int .i64 0, .int .i64 0] 186))) (Below.heap_alloc _ _ _ (by rw [hsz]; exact Nat.lt_succ_self _))
  refine ⟨((below1 w _).drew).alloc (by rw [hsz]; exact Nat.le_succ _) _, fun j hj => ?_, ?_, ?_, ?_, fun j => ?_⟩
  · rw [← hsz, World.cell?_alloc_mark]
    exact bytesRow_at s cap j hj
  · rw [old]; simp
  · rw [old]; simp
  · rw [old]; simp
  · have : ((w.alloc (.cells #[.int .i64 0, .int .i64 0, .int .i64 0] 186)).drew.alloc (.cells (bytesRow s cap) 5 ((bytesRow s cap).size, (bytesRow s cap).size + 1))).frozen? ⟨w.heap.size, j, none⟩ = (w.alloc (.cells #[.int .i64 0, .int .i64 0, .int .i64 0] 186)).frozen? ⟨w.heap.size, j, none⟩ :=
      World.frozen?_of_block (w := (w.alloc (.cells #[.int .i64 0, .int .i64 0, .int .i64 0] 186))) (Below.heap_alloc _ _ _ (by rw [hsz]; exact Nat.lt_succ_self _))
    rw [this]; simp
/-- what the loop knows behind k bytes -/
def PRel (s : ByteArray) (k : Nat) (part a b c : Int) : Prop :=
  (∀ j (hj : j < s.data.toList.length), j < k → Cal.fits j s.data.toList[j] = true) ∧
  a = Cal.val (Cal.seg s.data.toList 0 (min k 4)) ∧ b = Cal.val (Cal.seg s.data.toList 5 (min k 7)) ∧ c = Cal.val (Cal.seg s.data.toList 8 k) ∧
  part = if k ≤ 4 then 0 else if k ≤ 7 then 1 else 2
theorem of_any (y m d : Int) (w : World) :
    Calls Tryz.prog 203 #[.int .i64 y, .int .i64 m, .int .i64 d] w fun e w' => e = .returned (.tuple #[.int .i64 (ofV y m d), .int .i64 (ofE y m d)]) ∧ Below w.heap.size w w' := by
  unfold ofV ofE
  by_cases h : Cal.ok y m d
  · rw [if_pos h, if_pos h]; exact of_ok y m d w h
  · rw [if_neg h, if_neg h]; exact of_bad y m d w h
/-- what a text of ten bytes is read as -/
def rdV (s : ByteArray) : Int := if (∀ j (hj : j < s.data.toList.length), Cal.fits j s.data.toList[j] = true) then ofV (Cal.val (Cal.seg s.data.toList 0 4)) (Cal.val (Cal.seg s.data.toList 5 7)) (Cal.val (Cal.seg s.data.toList 8 10)) else 0
def rdE (s : ByteArray) : Int := if (∀ j (hj : j < s.data.toList.length), Cal.fits j s.data.toList[j] = true) then ofE (Cal.val (Cal.seg s.data.toList 0 4)) (Cal.val (Cal.seg s.data.toList 5 7)) (Cal.val (Cal.seg s.data.toList 8 10)) else 30
theorem rd_bad {s : ByteArray} {k : Nat} (hk : k < s.data.toList.length) (h : Cal.fits k s.data.toList[k] = false) : rdV s = 0 ∧ rdE s = 30 := by
  have n : ¬ ∀ j (hj : j < s.data.toList.length), Cal.fits j s.data.toList[j] = true := fun a => by rw [a k hk] at h; cases h
  unfold rdV rdE
  rw [if_neg n, if_neg n]
  exact ⟨rfl, rfl⟩
theorem prel_start (s : ByteArray) : PRel s 0 0 0 0 0 :=
  ⟨fun j _ h => absurd h (by omega), by rw [Cal.seg_nil _ (by omega)]; rfl, by rw [Cal.seg_nil _ (by omega)]; rfl, by rw [Cal.seg_nil _ (by omega)]; rfl, rfl⟩
theorem prel_fits {s : ByteArray} {k : Nat} {part a b c : Int} (h : PRel s k part a b c) (hk : k < s.data.toList.length) (hf : Cal.fits k s.data.toList[k] = true) :
    ∀ j (hj : j < s.data.toList.length), j < k + 1 → Cal.fits j s.data.toList[j] = true := fun j hj hl => by
  by_cases e : j = k
  · subst e; exact hf
  · exact h.1 j hj (by omega)
theorem prel_bd {s : ByteArray} {k : Nat} {part a b c : Int} (h : PRel s k part a b c) (hk : k ≤ 10) : 0 ≤ a ∧ a < 10000 ∧ 0 ≤ b ∧ b < 10000 ∧ 0 ≤ c ∧ c < 10000 := by
  obtain ⟨h1, rfl, rfl, rfl, -⟩ := h
  have dig : ∀ j (hj : j < s.data.toList.length), j < k → j ≠ 4 → j ≠ 7 → Cal.isDig s.data.toList[j] = true := fun j hj hl e f => by rw [← Cal.fits_dig e f]; exact h1 j hj hl
  have u := Cal.seg_bd s.data.toList (lo := 0) (hi := min k 4) (by omega) (fun j hj _ _ => dig j hj (by omega) (by omega) (by omega))
  have v := Cal.seg_bd s.data.toList (lo := 5) (hi := min k 7) (by omega) (fun j hj _ _ => dig j hj (by omega) (by omega) (by omega))
  have x := Cal.seg_bd s.data.toList (lo := 8) (hi := k) (by omega) (fun j hj _ _ => dig j hj (by omega) (by omega) (by omega))
  exact ⟨u.1, u.2, v.1, v.2, x.1, x.2⟩
theorem prel_dig0 {s : ByteArray} {k : Nat} {part a b c : Int} (h : PRel s k part a b c) (hk : k < s.data.toList.length) (hf : Cal.fits k s.data.toList[k] = true) (h4 : k < 4) :
    PRel s (k + 1) 0 (10 * a + ((s.data.toList[k].toNat : Int) - 48)) b c := by
  refine ⟨prel_fits h hk hf, ?_, ?_, ?_, by rw [if_pos (by omega)]⟩
  · rw [h.2.1, show min (k + 1) 4 = k + 1 by omega, show min k 4 = k by omega, Cal.seg_succ _ (by omega) hk, Cal.val_snoc]
  · rw [h.2.2.1, Cal.seg_nil _ (by omega), Cal.seg_nil _ (by omega)]
  · rw [h.2.2.2.1, Cal.seg_nil _ (by omega), Cal.seg_nil _ (by omega)]
theorem prel_dash {s : ByteArray} {k : Nat} {part a b c : Int} (h : PRel s k part a b c) (hk : k < s.data.toList.length) (hf : Cal.fits k s.data.toList[k] = true) (h4 : k = 4 ∨ k = 7) :
    PRel s (k + 1) (part + 1) a b c := by
  refine ⟨prel_fits h hk hf, ?_, ?_, ?_, ?_⟩
  · rw [h.2.1, show min (k + 1) 4 = min k 4 by omega]
  · rw [h.2.2.1]
    rcases h4 with rfl | rfl
    · rw [Cal.seg_nil _ (by omega), Cal.seg_nil _ (by omega)]
    · rfl
  · rw [h.2.2.2.1, Cal.seg_nil _ (by omega), Cal.seg_nil _ (by omega)]
  · rw [h.2.2.2.2]
    rcases h4 with rfl | rfl <;> rfl
theorem prel_dig1 {s : ByteArray} {k : Nat} {part a b c : Int} (h : PRel s k part a b c) (hk : k < s.data.toList.length) (hf : Cal.fits k s.data.toList[k] = true) (h4 : 5 ≤ k) (h5 : k < 7) :
    PRel s (k + 1) 1 a (10 * b + ((s.data.toList[k].toNat : Int) - 48)) c := by
  refine ⟨prel_fits h hk hf, ?_, ?_, ?_, by rw [if_neg (by omega), if_pos (by omega)]⟩
  · rw [h.2.1, show min (k + 1) 4 = min k 4 by omega]
  · rw [h.2.2.1, show min (k + 1) 7 = k + 1 by omega, show min k 7 = k by omega, Cal.seg_succ _ (by omega) hk, Cal.val_snoc]
  · rw [h.2.2.2.1, Cal.seg_nil _ (by omega), Cal.seg_nil _ (by omega)]
theorem prel_dig2 {s : ByteArray} {k : Nat} {part a b c : Int} (h : PRel s k part a b c) (hk : k < s.data.toList.length) (hf : Cal.fits k s.data.toList[k] = true) (h4 : 8 ≤ k) :
    PRel s (k + 1) 2 a b (10 * c + ((s.data.toList[k].toNat : Int) - 48)) := by
  refine ⟨prel_fits h hk hf, ?_, ?_, ?_, by rw [if_neg (by omega), if_neg (by omega)]⟩
  · rw [h.2.1, show min (k + 1) 4 = min k 4 by omega]
  · rw [h.2.2.1, show min (k + 1) 7 = min k 7 by omega]
  · rw [h.2.2.2.1, Cal.seg_succ _ (by omega) hk, Cal.val_snoc]
theorem prel_end {s : ByteArray} {part a b c : Int} (h : PRel s 10 part a b c) (hs : s.data.toList.length = 10) : ofV a b c = rdV s ∧ ofE a b c = rdE s := by
  have g : ∀ j (hj : j < s.data.toList.length), Cal.fits j s.data.toList[j] = true := fun j hj => h.1 j hj (by omega)
  obtain ⟨-, rfl, rfl, rfl, -⟩ := h
  unfold rdV rdE
  rw [if_pos g, if_pos g]
  exact ⟨rfl, rfl⟩
theorem ret_pair {a b c d : Int} (h : a = b) (h' : c = d) : Ending.returned (.tuple #[.int .i64 a, .int .i64 c]) = .returned (.tuple #[.int .i64 b, .int .i64 d]) := by rw [h, h']
theorem dig_false {c : UInt8} (h : (c.toNat : Int) < 48 ∨ 57 < (c.toNat : Int)) : Cal.isDig c = false := by
  unfold Cal.isDig; rw [Bool.and_eq_false_iff, decide_eq_false_iff_not, decide_eq_false_iff_not]; omega
theorem dig_true {c : UInt8} (h : ¬ (c.toNat : Int) < 48) (h' : ¬ 57 < (c.toNat : Int)) : Cal.isDig c = true := by
  unfold Cal.isDig; rw [Bool.and_eq_true, decide_eq_true_iff, decide_eq_true_iff]; omega
set_option maxHeartbeats 4000000 in
theorem parse_ten (s : ByteArray) (w : World) (hs : s.size = 10) :
    Calls Tryz.prog 179 #[.string s] w fun e w' => e = .returned (.tuple #[.int .i64 (rdV s), .int .i64 (rdE s)]) ∧ Below w.heap.size w w' := by
  have hcv := fun w => run_bytes_of_string (P := Tryz.prog) w 9 46 5 s (by kernel_rfl) (by kernel_rfl) (by kernel_rfl)
  go_enter Tryz.func179, Tryz.ntmps179
  go_wp2
  have hlen := Lib.hid (show s.data.toList.length = 10 by simpa using hs)
  clear hcv
  go_loopw [5, 14] (fun p i wr => ∃ (k : Nat) (part a b c : Int), k ≤ 10 ∧ i = .int .i64 k ∧ p = .int .i64 part ∧ Hid (PRel s k part a b c) ∧ Hid (PInv s w.heap.size a b c w wr)) (fun _ i _ => (10 - intOf i).toNat)
  case atStart => exact ⟨0, 0, 0, 0, 0, by omega, rfl, rfl, prel_start s, PInv.start s w _⟩
  case round =>
    obtain ⟨k, part, a, b, c, hk, rfl, rfl, HR, HI⟩ := hrel
    have bd := prel_bd HR.out hk
    by_cases hlt : k < 10
    · have hks : k < s.size := by omega
      have hcell := HI.out.2.1 k hks
      have hkl : Hid (k < s.data.toList.length) := by have := hlen.out; show k < _; omega
      have hck : Hid (s[k] = s.data.toList[k]'hkl.out) := rfl
      have hpart := HR.out.2.2.2.2
      by_cases c4 : k = 4
      · subst c4
        obtain rfl : part = 0 := hpart
        by_cases hd : (s[4].toNat : Int) = 45
        · have hf : Hid (Cal.fits 4 (s.data.toList[4]'hkl.out) = true) := by show _ = true; rw [Cal.fits_dash (by omega), decide_eq_true_iff]; exact hd
          go_wp2
          go_roundw
          case rel => exact ⟨5, 1, a, b, c, by omega, by go_num, rfl, Lib.hid (prel_dash HR.out hkl.out hf.out (by omega)), HI⟩
          case measure => simp [intOf]
        · have hf : Hid (Cal.fits 4 (s.data.toList[4]'hkl.out) = false) := by show _ = false; rw [Cal.fits_dash (by omega), decide_eq_false_iff_not]; exact hd
          have hr := Lib.hid (rd_bad hkl.out hf.out)
          go_wp2
          go_ret2
          exact ⟨ret_pair hr.out.1.symm hr.out.2.symm, HI.out.1⟩
      by_cases c7 : k = 7
      · subst c7
        obtain rfl : part = 1 := hpart
        by_cases hd : (s[7].toNat : Int) = 45
        · have hf : Hid (Cal.fits 7 (s.data.toList[7]'hkl.out) = true) := by show _ = true; rw [Cal.fits_dash (by omega), decide_eq_true_iff]; exact hd
          go_wp2
          go_roundw
          case rel => exact ⟨8, 2, a, b, c, by omega, by go_num, rfl, Lib.hid (prel_dash HR.out hkl.out hf.out (by omega)), HI⟩
          case measure => simp [intOf]
        · have hf : Hid (Cal.fits 7 (s.data.toList[7]'hkl.out) = false) := by show _ = false; rw [Cal.fits_dash (by omega), decide_eq_false_iff_not]; exact hd
          have hr := Lib.hid (rd_bad hkl.out hf.out)
          go_wp2
          go_ret2
          exact ⟨ret_pair hr.out.1.symm hr.out.2.symm, HI.out.1⟩
      by_cases k4 : k < 4
      · have hf4 : Hid (k ≠ 4 ∧ k ≠ 7) := by show _ ∧ _; omega
        have q4 : ((k : Int) == 4) = false := by rw [beq_eq_false_iff_ne]; omega
        have q7 : ((k : Int) == 7) = false := by rw [beq_eq_false_iff_ne]; omega
        obtain rfl : part = 0 := by rw [hpart]; rw [if_pos (by omega)]
        clear hpart
        have hm := HI.out.2.2.1
        have hz := HI.out.2.2.2.2.2 0
        by_cases hd1 : (s[k].toNat : Int) < 48
        · have hr := Lib.hid (rd_bad hkl.out ((Cal.fits_dig hf4.out.1 hf4.out.2).trans (dig_false (.inl hd1))))
          go_wp2
          go_ret2
          exact ⟨ret_pair hr.out.1.symm hr.out.2.symm, HI.out.1⟩
        by_cases hd2 : 57 < (s[k].toNat : Int)
        · have hr := Lib.hid (rd_bad hkl.out ((Cal.fits_dig hf4.out.1 hf4.out.2).trans (dig_false (.inr hd2))))
          go_wp2
          go_ret2
          exact ⟨ret_pair hr.out.1.symm hr.out.2.symm, HI.out.1⟩
        have hf : Hid (Cal.fits k (s.data.toList[k]'hkl.out) = true) := (Cal.fits_dig hf4.out.1 hf4.out.2).trans (dig_true hd1 hd2)
        go_wp2
        go_roundw
        case rel => exact ⟨k + 1, 0, _, b, c, by omega, by go_num, rfl, Lib.hid (prel_dig0 HR.out hkl.out hf.out k4), Lib.hid HI.out.set0⟩
        case measure => simp [intOf]; omega
      by_cases k7 : k < 7
      · have hf4 : Hid (k ≠ 4 ∧ k ≠ 7) := by show _ ∧ _; omega
        have q4 : ((k : Int) == 4) = false := by rw [beq_eq_false_iff_ne]; omega
        have q7 : ((k : Int) == 7) = false := by rw [beq_eq_false_iff_ne]; omega
        obtain rfl : part = 1 := by rw [hpart]; rw [if_neg (by omega), if_pos (by omega)]
        clear hpart
        have hm := HI.out.2.2.2.1
        have hz := HI.out.2.2.2.2.2 1
        by_cases hd1 : (s[k].toNat : Int) < 48
        · have hr := Lib.hid (rd_bad hkl.out ((Cal.fits_dig hf4.out.1 hf4.out.2).trans (dig_false (.inl hd1))))
          go_wp2
          go_ret2
          exact ⟨ret_pair hr.out.1.symm hr.out.2.symm, HI.out.1⟩
        by_cases hd2 : 57 < (s[k].toNat : Int)
        · have hr := Lib.hid (rd_bad hkl.out ((Cal.fits_dig hf4.out.1 hf4.out.2).trans (dig_false (.inr hd2))))
          go_wp2
          go_ret2
          exact ⟨ret_pair hr.out.1.symm hr.out.2.symm, HI.out.1⟩
        have hf : Hid (Cal.fits k (s.data.toList[k]'hkl.out) = true) := (Cal.fits_dig hf4.out.1 hf4.out.2).trans (dig_true hd1 hd2)
        go_wp2
        go_roundw
        case rel => exact ⟨k + 1, 1, a, _, c, by omega, by go_num, rfl, Lib.hid (prel_dig1 HR.out hkl.out hf.out (by omega) k7), Lib.hid HI.out.set1⟩
        case measure => simp [intOf]; omega
      · have hf4 : Hid (k ≠ 4 ∧ k ≠ 7) := by show _ ∧ _; omega
        have q4 : ((k : Int) == 4) = false := by rw [beq_eq_false_iff_ne]; omega
        have q7 : ((k : Int) == 7) = false := by rw [beq_eq_false_iff_ne]; omega
        obtain rfl : part = 2 := by rw [hpart]; rw [if_neg (by omega), if_neg (by omega)]
        clear hpart
        have hm := HI.out.2.2.2.2.1
        have hz := HI.out.2.2.2.2.2 2
        by_cases hd1 : (s[k].toNat : Int) < 48
        · have hr := Lib.hid (rd_bad hkl.out ((Cal.fits_dig hf4.out.1 hf4.out.2).trans (dig_false (.inl hd1))))
          go_wp2
          go_ret2
          exact ⟨ret_pair hr.out.1.symm hr.out.2.symm, HI.out.1⟩
        by_cases hd2 : 57 < (s[k].toNat : Int)
        · have hr := Lib.hid (rd_bad hkl.out ((Cal.fits_dig hf4.out.1 hf4.out.2).trans (dig_false (.inr hd2))))
          go_wp2
          go_ret2
          exact ⟨ret_pair hr.out.1.symm hr.out.2.symm, HI.out.1⟩
        have hf : Hid (Cal.fits k (s.data.toList[k]'hkl.out) = true) := (Cal.fits_dig hf4.out.1 hf4.out.2).trans (dig_true hd1 hd2)
        go_wp2
        go_roundw
        case rel => exact ⟨k + 1, 2, a, b, _, by omega, by go_num, rfl, Lib.hid (prel_dig2 HR.out hkl.out hf.out (by omega)), Lib.hid HI.out.set2⟩
        case measure => simp [intOf]; omega
    · obtain rfl : k = 10 := by omega
      have hend := Lib.hid (prel_end HR.out hlen.out)
      have m0 := HI.out.2.2.1
      have m1 := HI.out.2.2.2.1
      have m2 := HI.out.2.2.2.2.1
      go_wp2_with (go_at_call 203; refine (of_any _ _ _ _).mono ?_; rintro e w' ⟨rfl, hb⟩)
      go_ret2
      exact ⟨ret_pair hend.out.1 hend.out.2, HI.out.1.trans (hb.mono HI.out.1.size)⟩
end Go.Proofs.YtcndknkdhlmdnaaGreatDoor
