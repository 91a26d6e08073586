/-
  Laws that the proof rests on.
-/
import Derived.Test.YtibiccacafjjfaaGreatDoorR06
import Derived.Test.YtibiccacafjjfaaGreatDoorR03
import Derived.Test.YtibiccacafjjfaaGreatDoorR05
namespace Go.Proofs.YtibiccacafjjfaaGreatDoor
set_option maxRecDepth 100000
set_option maxHeartbeats 16000000
def FS (u : Nd) : Prop:=∀ rest,brk rest→Sc (d9 u) (o0 u) rest
theorem FS.part {u : Nd} (h : FS u) {rest : List UInt8} (hr : brk rest) : Sc (aI u.kind (d9 u)) (cY u.kind (o0 u)) rest:=by
 unfold aI cY
 split
 ·show Sc (40 :: (d9 u ++ [41])) ([tS o7] ++ (o0 u ++ [tS m7])) rest
  exact Sc.cons (O6 (by decide) (fun e => by cases e)) (Sc.app (h _ (o3 rfl _)) (O6 (by decide) (fun e => by cases e)))
 ·exact h rest hr
theorem qL : ∀ (ks : List Nd) (rest : List UInt8),(∀ k∈ks,FS k)→Sc (aK (ks.map d9) ++ [41]) (bE (ks.map o0) ++ [tS m7]) rest
 | [],rest,_ => O6 (by decide) (fun e => by cases e)
 | k :: ks,rest,h => by
   show Sc (44 :: (32 :: (d9 k ++ aK (ks.map d9))) ++ [41]) (([tS l0] ++ (o0 k ++ bE (ks.map o0))) ++ [tS m7]) rest
   have hk:=h k (List.mem_cons_self ..)
   have hc:=qL ks rest fun k hk => h k (List.mem_cons_of_mem _ hk)
   rw [List.append_assoc,List.append_assoc,show 44 :: (32 :: (d9 k ++ aK (ks.map d9))) ++ [41]=44 :: (32 :: (d9 k ++ (aK (ks.map d9) ++ [41]))) by simp]
   refine Sc.cons (O6 (by decide) (fun e => by cases e)) (Sc.skip (by decide) (Sc.app (hk _ ?_) hc))
   cases ks with
   | nil => exact o3 rfl _
   | cons k ks => exact o3 (c:=44) rfl _
theorem tY {ks : List Nd} (hne : ks≠[]) (rest : List UInt8) (h : ∀ k∈ks,FS k) : Sc (bI (ks.map d9)) (rW (ks.map o0)) rest:=by
 cases ks with
 | nil => exact absurd rfl hne
 | cons k ks =>
   have hc:=qL ks rest fun k hk => h k (List.mem_cons_of_mem _ hk)
   show Sc ([40] ++ d9 k ++ aK (ks.map d9) ++ [41]) ([tS o7] ++ (o0 k ++ (bE (ks.map o0) ++ [tS m7]))) rest
   rw [List.append_assoc,List.append_assoc]
   refine Sc.app (O6 (by decide) (fun e => by cases e)) (Sc.app (h k (List.mem_cons_self ..) _ ?_) hc)
   cases ks with
   | nil => exact o3 rfl _
   | cons k ks => exact o3 (c:=44) rfl _
theorem qH {s w : List UInt8} (hn : p8 s=true) (hw : F0 w=true) (hw' : p8 w=true) {bs rest : List UInt8} {T : List Tk} (h : Sc bs T rest) : Sc (w ++ (32 :: 34 :: (s ++ [34]) ++ bs)) (tW w :: ⟨7,s,0,0⟩ :: T) rest:=by
 show Sc (w ++ (32 :: (34 :: (s ++ [34])) ++ bs)) ([tW w] ++ ([⟨7,s,0,0⟩] ++ T)) rest
 exact Sc.app (cV hw' hw (o3 rfl _)) (Sc.skip (by decide) (Sc.app (a3Z hn _) h))
theorem a58 {s : List UInt8} (h : dL s=true) {c : UInt8} (hc : c.toNat≤32) (rest : List UInt8) : Sc s [a3G s] (c :: rest):=by
 have hb : jH c=false:=by
  have:=bV (p:=fun c => !decide (c.toNat≤32) || !jH c) (by decide +kernel) c
  rw [decide_eq_true hc] at this
  simpa using this
 have h61 : ∀ d : UInt8,d=60→(c :: rest).headD 0≠61:=fun d _ e => by
  replace e : c=61:=e
  subst e
  exact absurd hc (by decide)
 rcases rC h with rfl | rfl | rfl | rfl | rfl | rfl | rfl | rfl | rfl
 ·exact cV (by decide) (by decide) (o3 hb _)
 ·exact cV (by decide) (by decide) (o3 hb _)
 ·exact O6 (by decide) (h61 _)
 ·exact a3Y _
 ·exact O6 (by decide) (h61 _)
 ·exact O6 (by decide) (h61 _)
 ·exact O6 (by decide) (h61 _)
 ·exact O6 (by decide) (h61 _)
 ·exact O6 (by decide) (h61 _)
theorem a1f (N : Nat) : ∀ (u : Nd) (d : Int),SizeOf.sizeOf u<N→e7 u d=true→FS u:=by
 induction N with
 | zero => intro u d h; omega
 | succ N ih =>
 intro u d hu h rest hr
 have hkids : ∀ k∈u.kids,FS k:=fun k hk => by
  have hp:=(F5 h).2.2.2
  rw [eW] at hp
  exact ih k (d + 1) (zH hu hk) (List.all_eq_true.1 hp k hk)
 obtain ⟨hk,ht,hn,-⟩:=F5 h
 have hkk:=uE hk
 have ef:=wO u
 have et:=wH u
 rcases (show u.kind=5∨u.kind=6∨u.kind=7∨u.kind=8∨u.kind=9∨u.kind=10∨u.kind=11∨u.kind=12∨u.kind=13∨u.kind=14∨u.kind=15 by omega) with e | e | e | e | e | e | e | e | e | e | e
 ·rw [e] at ef et hn
  replace ef : d9 u=aS u.n:=ef
  replace et : o0 u=[⟨6,[],u.n,0⟩]:=et
  have hb : 0≤u.n∧u.n≤1000000000000000:=by unfold Y7 at hn; simpa using hn
  rw [ef,et]
  exact a7t hb.1 hb.2 hr
 ·rw [e] at ef et hn
  replace ef : d9 u=dC u.n:=ef
  replace et : o0 u=[⟨5,[],u.n,0⟩]:=et
  have hb : 0≤u.n∧u.n≤73048:=by unfold Y7 at hn; simpa using hn
  rw [ef,et]
  exact a54 hb.1 hb.2 hr
 ·rw [fV h (by omega)] at ef et
  rw [e] at ef et ht
  replace ef : d9 u=u.text.data.toList:=ef
  replace et : o0 u=[⟨4,u.text.data.toList,0,0⟩]:=et
  rw [ef,et]
  exact a67 ht hr
 ·rw [e] at ef et
  replace ef : d9 u=if u.n=1 then bO else X4:=ef
  replace et : o0 u=[tW (if u.n=1 then bO else X4)]:=et
  rw [ef,et]
  split
  ·exact cV (by decide) (by decide) hr
  ·exact cV (by decide) (by decide) hr
 ·rw [e] at ef et ht
  replace ef : d9 u=[102,101,101,100,32,34] ++ u.text.data.toList ++ [34]:=ef
  replace et : o0 u=[tW cE,⟨7,u.text.data.toList,0,0⟩]:=et
  rw [ef,et]
  have:=qH (s:=u.text.data.toList) (w:=cE) ht (by decide) (by decide) (Sc.nil rest)
  rw [List.append_nil] at this
  exact this
 ·rw [fV h (by omega)] at ef et
  rw [e] at ef et ht
  replace ef : d9 u=u.text.data.toList:=ef
  replace et : o0 u=[eD u.text.data.toList]:=et
  rw [ef,et]
  exact a16 ht hr
 ·have hp:=rX h (.inl e)
  rw [e] at ef et ht
  replace ef : d9 u=u.text.data.toList ++ bI ((s6 u.kids).map (·.2)):=ef
  replace et : o0 u=[eD u.text.data.toList] ++ rW ((gM u.kids).map (·.2)):=et
  rw [ef,et,qG,gB]
  refine Sc.app (a16 ht ?_) (tY hp rest hkids)
  obtain ⟨x,hx⟩:=a3t (u.kids.map d9)
  rw [hx]
  exact o3 rfl _
 ·obtain ⟨s,k,p,rfl,hs,hrk⟩:=tF h e
  have hK:=hkids k (by simp [Nd.kids])
  rw [zR,et]
  show Sc _ ((if s.data.toList=[45] then tS cP else tW fX) :: cY k.kind (o0 k)) rest
  have hP:=hK.part hr
  rcases hs with hs | hs
  ·rw [hs,if_pos rfl,if_pos rfl]
   exact Sc.app (T:=[tS cP]) (O6 (by decide) (fun e => by cases e)) hP
  ·rw [hs,if_neg (by decide),if_neg (by decide)]
   exact Sc.app (a:=fX) (T:=[tW fX]) (cV (by decide) (by decide) (o3 rfl _)) (Sc.skip (by decide) hP)
 ·obtain ⟨s,k,v,p,rfl,hs,hrk,hrv⟩:=tC h e
  have hK:=(hkids k (by simp [Nd.kids])).part (rest:=32 :: (s.data.toList ++ 32 :: aI v.kind (d9 v)) ++ rest) (o3 rfl _)
  have hV:=(hkids v (by simp [Nd.kids])).part hr
  rw [wY,et]
  show Sc _ (cY k.kind (o0 k) ++ ([a3G s.data.toList] ++ cY v.kind (o0 v))) rest
  exact Sc.app hK (Sc.skip (by decide) (Sc.app (a58 hs (by decide) _) (Sc.skip (by decide) hV)))
 ·obtain ⟨s,a,b,c,p,rfl,hs,-⟩:=zE h e
  have hA:=hkids a (by simp [Nd.kids])
  have hB:=hkids b (by simp [Nd.kids])
  have hC:=hkids c (by simp [Nd.kids])
  rw [a1J,et]
  show Sc (tIf ++ 32 :: (d9 a ++ 32 :: (fF ++ 32 :: (d9 b ++ 32 :: (eY ++ 32 :: d9 c))))) ([tW tIf] ++ (o0 a ++ ([tW fF] ++ (o0 b ++ ([tW eY] ++ o0 c))))) rest
  exact Sc.app (cV (by decide) (by decide) (o3 rfl _)) (Sc.skip (by decide) (Sc.app (hA _ (o3 rfl _)) (Sc.skip (by decide) (Sc.app (cV (by decide) (by decide) (o3 rfl _)) (Sc.skip (by decide)
   (Sc.app (hB _ (o3 rfl _)) (Sc.skip (by decide) (Sc.app (cV (by decide) (by decide) (o3 rfl _)) (Sc.skip (by decide) (hC _ hr))))))))))
 ·have hp:=rX h (.inr e)
  rw [e] at ef et ht
  replace ef : d9 u=[112,105,99,107,32,34] ++ u.text.data.toList ++ [34] ++ bI ((s6 u.kids).map (·.2)):=ef
  replace et : o0 u=tW cD :: ⟨7,u.text.data.toList,0,0⟩ :: rW ((gM u.kids).map (·.2)):=et
  rw [ef,et,qG,gB]
  have:=qH (s:=u.text.data.toList) (w:=cD) ht (by decide) (by decide) (tY hp rest hkids)
  simpa [cD] using this
theorem a2i {u : Nd} {d : Int} (h : e7 u d=true) : FS u:=a1f _ u d (Nat.lt_succ_self _) h
inductive Scan : List UInt8→Int→List Tk→Prop
 | fin (p : Int) : Scan [] p [⟨0,[],0,p⟩]
 | blank {c : UInt8} {r : List UInt8} {p : Int} {l : List Tk} (h : c.toNat≤32) (hl : Scan r (p + 1) l) : Scan (c :: r) p l
 | rem {r : List UInt8} {p : Int} {l : List Tk} (hl : Scan (r.drop (gU r)) (p + 1 + gU r) l) : Scan (35 :: r) p l
 | tok {c : UInt8} {r : List UInt8} {p : Int} {t : Tk} {n : Nat} {l : List Tk} (h : ¬ c.toNat≤32) (h' : c≠35) (ht : aB c r p=.ok (t,n)) (hl : Scan ((c :: r).drop n) (p + n) l) : Scan (c :: r) p (t :: l)
theorem a6W (N : Nat) : ∀ (u : List UInt8),u.length≤N→∀ (p : Int) (k : Nat) (l : List Tk),r9 u p k 0=.ok l→Scan u p l∧k + l.length≤8193∨8192<k:=by
 induction N with
 | zero =>
   intro u hu p k l h
   cases u with
   | nil =>
     by_cases hk : 8192<k
     ·exact .inr hk
     ·cases h
      exact .inl ⟨.fin p,by simp; omega⟩
   | cons c r => simp at hu
 | succ N ih =>
   intro u hu p k l h
   cases u with
   | nil =>
     by_cases hk : 8192<k
     ·exact .inr hk
     ·cases h
      exact .inl ⟨.fin p,by simp; omega⟩
   | cons c r =>
     rw [List.length_cons] at hu
     by_cases h32 : c.toNat≤32
     ·rw [eC h32] at h
      rcases ih r (by omega) _ _ _ h with ⟨h1,h2⟩ | h1
      ·exact .inl ⟨.blank h32 h1,h2⟩
      ·exact .inr h1
     by_cases h35 : c=35
     ·rw [lB h35] at h
      subst h35
      rcases ih _ (by rw [List.length_drop]; omega) _ _ _ h with ⟨h1,h2⟩ | h1
      ·exact .inl ⟨.rem h1,h2⟩
      ·exact .inr h1
     cases hx : aB c r p with
     | error e => rw [iM h32 h35 hx] at h; cases h
     | ok q =>
       obtain ⟨t,n⟩:=q
       have hn:=kH hx
       by_cases hk : k=8192
       ·rw [fD h32 h35 hx hk] at h; cases h
       rw [iJ h32 h35 hx hk] at h
       cases hs : r9 ((c :: r).drop n) (p + n) (k + 1) 0 with
       | error e => rw [hs] at h; cases h
       | ok l' =>
         rw [hs] at h
         obtain rfl : [t] ++ l'=l:=Except.ok.inj h
         rcases ih _ (by rw [List.length_drop,List.length_cons]; omega) _ _ _ hs with ⟨h1,h2⟩ | h1
         ·exact .inl ⟨.tok h32 h35 hx h1,by simp; omega⟩
         ·exact .inr (by omega)
theorem oZ {u : List UInt8} {l : List Tk} (h : p5 u=.ok l) : Scan u 0 l∧l.length≤8193∧u.length≤16384:=by
 unfold p5 at h
 split at h
 ·cases h
 ·rename_i g
  rcases a6W _ u (Nat.le_refl _) 0 0 l h with ⟨h1,h2⟩ | h1
  ·exact ⟨h1,by omega,by omega⟩
  ·omega
theorem oU (l : List UInt8) : r8 l=true↔10≤l.length∧(∀ j (hj : j<(l.take 10).length),Cal.fits j (l.take 10)[j]=true)∧dgC ((l.drop 10).headD 0)=false:=by
 unfold r8
 rw [Bool.and_eq_true,Bool.and_eq_true,decide_eq_true_eq,decide_eq_true_eq,Bool.not_eq_true']
def dF : List Bool→List UInt8→Bool
 | [],u => !dgC (u.headD 0)
 | _ :: _,[] => false
 | b :: P,c :: u => (if b=true then dgC c else c == 45) && dF P u
def o9 : List Bool:=[true,true,true,true,false,true,true,false,true,true]
theorem a4o (l : List UInt8) : r8 l=dF o9 l:=by
 have hx : ∀ (a b : UInt8) (k : Nat),Cal.fits k a=if k=4∨k=7 then decide ((a.toNat : Int)=45) else dgC a:=fun a b k => by
  unfold Cal.fits
  split
  ·rfl
  ·rw [oJ]
 have h45 : ∀ a : UInt8,decide ((a.toNat : Int)=45)=(a == 45):=fun a => by
  have:=jM (p:=fun c => decide ((c.toNat : Int)=45) == (c == 45)) (by decide +kernel) a
  simpa using this
 match l with
 | [] => rfl
 | [_] => simp [r8,dF,o9]
 | [_,_] => simp [r8,dF,o9]
 | [_,_,_] => simp [r8,dF,o9]
 | [_,_,_,_] => simp [r8,dF,o9]
 | [_,_,_,_,_] => simp [r8,dF,o9]
 | [_,_,_,_,_,_] => simp [r8,dF,o9]
 | [_,_,_,_,_,_,_] => simp [r8,dF,o9]
 | [_,_,_,_,_,_,_,_] => simp [r8,dF,o9]
 | [_,_,_,_,_,_,_,_,_] => simp [r8,dF,o9]
 | a0 :: a1 :: a2 :: a3 :: a4 :: a5 :: a6 :: a7 :: a8 :: a9 :: r =>
   rw [Bool.eq_iff_iff,oU]
   have e : (a0 :: a1 :: a2 :: a3 :: a4 :: a5 :: a6 :: a7 :: a8 :: a9 :: r).take 10=[a0,a1,a2,a3,a4,a5,a6,a7,a8,a9]:=rfl
   rw [e]
   simp only [dF,o9,if_true,Bool.false_eq_true,if_false,Bool.and_eq_true,Bool.not_eq_true']
   constructor
   ·rintro ⟨-,h,h'⟩
    have g : ∀ j (hj : j<10),(if j=4∨j=7 then ([a0,a1,a2,a3,a4,a5,a6,a7,a8,a9][j]'hj == 45) else dgC ([a0,a1,a2,a3,a4,a5,a6,a7,a8,a9][j]'hj))=true:=fun j hj => by
     have:=h j hj
     rwa [hx _ 0,h45] at this
    exact ⟨g 0 (by decide),g 1 (by decide),g 2 (by decide),g 3 (by decide),g 4 (by decide),g 5 (by decide),g 6 (by decide),g 7 (by decide),g 8 (by decide),g 9 (by decide),h'⟩
   ·rintro ⟨g0,g1,g2,g3,g4,g5,g6,g7,g8,g9,h'⟩
    refine ⟨by simp,fun j hj => ?_,h'⟩
    rw [hx _ 0,h45]
    match j,hj with
    | 0,_ => exact g0
    | 1,_ => exact g1
    | 2,_ => exact g2
    | 3,_ => exact g3
    | 4,_ => exact g4
    | 5,_ => exact g5
    | 6,_ => exact g6
    | 7,_ => exact g7
    | 8,_ => exact g8
    | 9,_ => exact g9
def lF (l : List UInt8) : Bool:=!l.isEmpty && l.all dgC
def U4 (a : List UInt8) : Bool:=lF a && (!decide (10<a.length) && !(decide (1<a.length) && a.headD 0 == 48))
def gL (point : Bool) (b : List UInt8) : Bool:=!point || (lF b && !decide (6<b.length))
def a5X (a b : List UInt8) : Int:=Cal.val (a ++ b ++ List.replicate (6 - b.length) 48)
def rY (c : List UInt8 × List UInt8 × Bool) : Option Int:=if U4 c.1=true∧gL c.2.2 c.2.1=true then some (a5X c.1 c.2.1) else none
theorem uV {p : UInt8→Bool} {l : List UInt8} (h : l.all p=true) (r : List UInt8) (hr : ∀ c q,r=c :: q→p c=false) : (l ++ r).takeWhile p=l:=by
 induction l with
 | nil =>
   cases r with
   | nil => rfl
   | cons c q => rw [List.nil_append,List.takeWhile_cons,if_neg (by rw [hr c q rfl]; decide)]
 | cons a l ih =>
   rw [List.all_cons,Bool.and_eq_true] at h
   rw [List.cons_append,List.takeWhile_cons,if_pos h.1,ih h.2]
theorem mI {p : UInt8→Bool} : ∀ {l : List UInt8},l.all p=false→∀ r,∃ c q,(l ++ r).drop ((l ++ r).takeWhile p).length=c :: q∧p c=false∧c∈l
 | [],h,_ => by cases h
 | a :: l,h,r => by
   rw [List.all_cons] at h
   cases ha : p a with
   | false => exact ⟨a,l ++ r,by rw [List.cons_append,List.takeWhile_cons,if_neg (by rw [ha]; decide)]; rfl,ha,List.mem_cons_self ..⟩
   | true =>
     rw [ha,Bool.true_and] at h
     obtain ⟨c,q,h1,h2,h3⟩:=mI h r
     exact ⟨c,q,by rw [List.cons_append,List.takeWhile_cons,if_pos ha,List.length_cons,List.drop_succ_cons]; exact h1,h2,List.mem_cons_of_mem _ h3⟩
theorem a5R {l : List UInt8} (h : (Lib.cut l [46]).2.2=true) : l=(Lib.cut l [46]).1 ++ 46 :: (Lib.cut l [46]).2.1:=a1X h
theorem oF : ∀ (l : List UInt8),∀ c∈(Lib.cut l [46]).1,c≠46
 | [],c,h => by
   have : (Lib.cut [] [46]).1=([] : List UInt8):=rfl
   rw [this] at h; cases h
 | a :: l,c,h => by
   have ih:=oF l
   by_cases ha : a=46
   ·subst ha
    have : (Lib.cut (46 :: l) [46]).1=([] : List UInt8):=by
     unfold Lib.cut
     have e : Lib.index (46 :: l) [46]=0:=by rw [Lib.index]; rfl
     rw [e]; rfl
    rw [this] at h; cases h
   ·have hp : [46].isPrefixOf (a :: l)=false:=by
     rw [List.isPrefixOf,beq_eq_false_iff_ne.2 (fun e => ha e.symm),Bool.false_and]
    have e : Lib.index (a :: l) [46]=if Lib.index l [46] == -1 then -1 else Lib.index l [46] + 1:=by
     rw [Lib.index,hp]; rfl
    have hge:=Lib.index_ge l [46]
    have key : (Lib.cut (a :: l) [46]).1=a :: (Lib.cut l [46]).1:=by
     by_cases hn : Lib.index l [46]=-1
     ·have e2 : Lib.index (a :: l) [46]=-1:=by rw [e,hn]; rfl
      unfold Lib.cut
      rw [e2,hn,if_neg (by decide),if_neg (by decide)]
     ·have e2 : Lib.index (a :: l) [46]=Lib.index l [46] + 1:=by rw [e,if_neg (by rw [beq_iff_eq]; exact hn)]
      unfold Lib.cut
      rw [e2,if_pos (by omega),if_pos (by omega)]
      show (a :: l).take _=a :: l.take _
      rw [show (Lib.index l [46] + 1).toNat=(Lib.index l [46]).toNat + 1 by omega,List.take_succ_cons]
    rw [key] at h
    rcases List.mem_cons.1 h with rfl | h
    ·exact ha
    ·exact ih c h
theorem kD {l : List UInt8} (h : (Lib.cut l [46]).2.2=false) : Lib.cut l [46]=(l,[],false):=by
 unfold Lib.cut at h ⊢
 split
 ·rename_i g; rw [if_pos g] at h; cases h
 ·rfl
theorem a41 (l : List UInt8) : V4 l=rY (Lib.cut l [46]):=by
 have h46 : dgC 46=false:=by decide
 cases hpt : (Lib.cut l [46]).2.2 with
 | false =>
   rw [kD hpt]
   unfold rY gL
   have e0 : (U4 l=true∧(!false || (lF [] && !decide (6<([] : List UInt8).length)))=true)↔U4 l=true:=by simp
   simp only [e0]
   cases hd : l.all dgC with
   | true =>
     have ew : l.takeWhile dgC=l:=by
      have:=uV hd [] (fun c q h => by cases h)
      rwa [List.append_nil] at this
     unfold V4
     simp only [ew,List.drop_length]
     have ec : (1≤l.length∧l.length≤10∧(l.length=1∨l.headD 0≠48)∧aD []=true)↔U4 l=true:=by
      unfold U4 lF
      rw [hd]
      cases l with
      | nil => simp
      | cons a l => simp [aD]; try omega
     simp only [ec]
     rfl
   | false =>
     have hw : ¬ U4 l=true:=by unfold U4 lF; rw [hd]; simp
     rw [if_neg hw]
     obtain ⟨c,q,h1,h2,h3⟩:=mI hd []
     rw [List.append_nil] at h1
     unfold V4
     simp only
     rw [if_neg]
     rintro ⟨-,-,-,h⟩
     rw [h1] at h
     unfold aD at h
     simp only [Bool.and_eq_true,beq_iff_eq] at h
     have:=oF l c (by rw [kD hpt]; exact h3)
     exact this h.1
 | true =>
   have hl:=a5R hpt
   have hdots:=oF l
   rcases hcut : Lib.cut l [46] with ⟨a,b,f⟩
   rw [hcut] at hpt hl hdots
   replace hpt : f=true:=hpt
   subst hpt
   replace hl : l=a ++ 46 :: b:=hl
   replace hdots : ∀ c∈a,c≠46:=hdots
   unfold rY
   simp only
   cases hd : a.all dgC with
   | true =>
     have ew : l.takeWhile dgC=a:=by rw [hl]; exact uV hd _ (fun c q h => by cases h; exact h46)
     have er : l.drop a.length=46 :: b:=by rw [hl]; exact List.drop_left
     unfold V4
     simp only [ew,er]
     have ec : (1≤a.length∧a.length≤10∧(a.length=1∨l.headD 0≠48)∧aD (46 :: b)=true)↔(U4 a=true∧gL true b=true):=by
      unfold U4 gL lF aD
      rw [hd]
      cases a with
      | nil => simp
      | cons x a =>
        rw [hl]
        cases b with
        | nil => simp
        | cons y b =>
          simp
          constructor
          ·rintro ⟨h1,h2,h3,h4,h5⟩; exact ⟨⟨h1,h2⟩,⟨h4,h5⟩,h3⟩
          ·rintro ⟨⟨h1,h2⟩,⟨h4,h5⟩,h3⟩; exact ⟨h1,h2,h3,h4,h5⟩
     simp only [ec]
     rfl
   | false =>
     have hw : ¬ U4 a=true:=by unfold U4 lF; rw [hd]; simp
     rw [if_neg (fun h => hw h.1)]
     obtain ⟨c,q,h1,h2,h3⟩:=mI hd (46 :: b)
     rw [← hl] at h1
     unfold V4
     simp only
     rw [if_neg]
     rintro ⟨-,-,-,h⟩
     rw [h1] at h
     unfold aD at h
     simp only [Bool.and_eq_true,beq_iff_eq] at h
     exact hdots c h3 h.1
def F4 (rdr : List Tk→Rd) : Nat→List Nd→List Tk→Rd
 | 0,_,l => .error (76,(hd l).pos)
 | f + 1,acc,l => (rdr l).then fun t r => if isT l0 r=true then F4 rdr f (acc ++ [t]) (b9 r) else d7 m7 r fun r => .ok (mkN 0 [] 0 (acc ++ [t]) 0,r)
theorem uH (nest : Nat) : ∀ (f : Nat) (acc : List Nd) (l : List Tk),acc.length + f=8→rd (.args acc) nest l=F4 (rd .expr nest) f acc l
 | 0,acc,l,h => by
   rw [t7]
   exact if_pos (by omega)
 | f + 1,acc,l,h => by
   rw [t7]
   show (if acc.length=8 then _ else _)=_
   rw [if_neg (by omega),F4]
   congr 1
   funext t r
   split
   ·exact uH nest f (acc ++ [t]) (b9 r) (by rw [List.length_append]; simp; omega)
   ·rfl
def aT (l : List Tk) : Rd:=A7 1 l fun t r => .ok (mkN 4 t.text 0 [] t.pos,r)
def V7 (l : List Tk) : Rd:=if isT o7 l=true then F4 aT 8 [] (b9 l) else .ok (mkN 0 [] 0 [] 0,l)
def vW (l : List Tk) : Rd:=d7 gT l fun r => A7 1 r fun t r => (V7 r).then fun ps r => d7 tEq r fun r => (rd .expr 0 r).then fun x r => d7 t8 r fun r => .ok (mkN 3 t.text 0 (ps.kids ++ [x]) t.pos,r)
def q9 : Nat→List Nd→List Tk→Rd
 | 0,acc,l => if isT bA l=true then .error (76,(hd l).pos) else .ok (mkN 0 [] 0 acc 0,l)
 | f + 1,acc,l => if isT bA l=true then A7 1 (b9 l) fun t r => d7 t8 r fun r => q9 f (acc ++ [mkN 2 t.text 0 [] t.pos]) r else .ok (mkN 0 [] 0 acc 0,l)
def R9 : Nat→List Nd→List Tk→Rd
 | 0,acc,l => if isT gT l=true then .error (76,(hd l).pos) else .ok (mkN 0 [] 0 acc 0,l)
 | f + 1,acc,l => if isT gT l=true then (vW l).then fun t r => R9 f (acc ++ [t]) r else .ok (mkN 0 [] 0 acc 0,l)
def nO (l : List Tk) : Rd:=d7 dT l fun r => A7 1 r fun t r => d7 t8 r fun r => (q9 100 [] r).then fun is r => (R9 200 is.kids r).then fun ls r => .ok (mkN 1 t.text 0 ls.kids (hd l).pos,r)
mutual
def yH : Nd→Bool
 | .mk kind s n ks _ => r5 kind ks.length && L7 kind s.data.toList && Y7 kind n && pB ks
def pB : List Nd→Bool
 | [] => true
 | k :: ks => yH k && pB ks
end
theorem tG : ∀ ks,pB ks=ks.all yH
 | [] => rfl
 | k :: ks => by rw [pB,tG ks]; rfl
theorem a6i (t : Nd) : yH t=(r5 t.kind t.kids.length && L7 t.kind t.text.data.toList && Y7 t.kind t.n && pB t.kids):=by
 cases t; rw [yH]; rfl
mutual
theorem uK : ∀ (t : Nd) (d : Int),yH t=true→d + c8 t≤101→e7 t d=true
 | .mk k s n ks p,d,h,hd => by
   rw [yH,Bool.and_eq_true] at h
   rw [c8] at hd
   rw [e7,Bool.and_eq_true,Bool.and_eq_true,Bool.and_eq_true,Bool.and_eq_true]
   obtain ⟨h1,h2⟩:=h
   rw [Bool.and_eq_true,Bool.and_eq_true] at h1
   exact ⟨⟨⟨⟨decide_eq_true (by omega),h1.1.1⟩,h1.1.2⟩,h1.2⟩,qK ks (d + 1) h2 (by omega)⟩
theorem qK : ∀ (ks : List Nd) (d : Int),pB ks=true→d + i7 ks≤101→m8 ks d=true
 | [],_,_,_ => by rw [m8]
 | k :: ks,d,h,hd => by
   rw [pB,Bool.and_eq_true] at h
   rw [i7] at hd
   rw [m8,Bool.and_eq_true]
   exact ⟨uK k d h.1 (by omega),qK ks d h.2 (by omega)⟩
end
structure GT (t : Tk) : Prop where
 name : t.kind=1→p7 t.text=true
 far : t.kind=3→eH t.text=true
 cur : t.kind=4→kG t.text=true
 day : t.kind=5→0≤t.n∧t.n≤73048
 num : t.kind=6→0≤t.n∧t.n≤1000000000000000
 str : t.kind=7→p8 t.text=true
def Gd (t : Nd) : Prop:=yH t=true∧c8 t≤100
theorem Gd.right {t : Nd} (h : Gd t) : e7 t 1=true:=uK t 1 h.1 (by have:=h.2; omega)
def i8 (Q : Nd→List Tk→Prop) (x : Rd) : Prop:=match x with
 | .ok (t,r) => Q t r
 | .error (c,_) => c≠0
section
variable {Q Q' : Nd→List Tk→Prop}
theorem i8.mono {x : Rd} (h : i8 Q x) (hq : ∀ t r,Q t r→Q' t r) : i8 Q' x:=by
 match x,h with
 | .ok (t,r),h => exact hq t r h
 | .error (c,p),h => exact h
theorem i8.ok {t : Nd} {r : List Tk} (h : Q t r) : i8 Q (.ok (t,r)):=h
theorem i8.error {c p : Int} (h : c≠0) : i8 Q (.error (c,p)):=h
theorem i8.then {x : Rd} {f : Nd→List Tk→Rd} (h : i8 Q x) (hf : ∀ t r,Q t r→i8 Q' (f t r)) : i8 Q' (x.then f):=by
 match x,h with
 | .ok (t,r),h => exact hf t r h
 | .error (c,p),h => exact h
theorem i8.made {t : Nd} {r : List Tk} (h : c8 t≤100→Q t r) : i8 Q (made t r):=by
 unfold Go.Proofs.YtibiccacafjjfaaGreatDoor.made
 split
 ·exact i8.error (by decide)
 ·exact h (by omega)
theorem i8.want {w : List UInt8} {l : List Tk} {f : List Tk→Rd} (h : isT w l=true→i8 Q (f (b9 l))) : i8 Q (d7 w l f):=by
 unfold d7
 split
 ·rename_i g; exact h g
 ·exact i8.error (by decide)
theorem i8.kind {k : Int} {l : List Tk} {f : Tk→List Tk→Rd} (h : (hd l).kind=k→i8 Q (f (hd l) (b9 l))) : i8 Q (A7 k l f):=by
 unfold A7
 split
 ·rename_i g; exact h g
 ·exact i8.error (by decide)
theorem i8.nest {n : Nat} {l : List Tk} {x : Rd} (h : i8 Q x) : i8 Q (S0 n l x):=by
 unfold S0
 split
 ·exact i8.error (by decide)
 ·exact h
theorem i8.ite {c : Prop} [Decidable c] {x y : Rd} (h : c→i8 Q x) (h' : ¬ c→i8 Q y) : i8 Q (if c then x else y):=by
 split
 ·exact h (by assumption)
 ·exact h' (by assumption)
end
def Lt (l : List Tk) (n : Nat) (r : List Tk) : Prop:=(∀ k∈r,GT k)∧r.length + n≤l.length
theorem Lt.refl {l : List Tk} (h : ∀ k∈l,GT k) : Lt l 0 l:=⟨h,by omega⟩
theorem a7F {l : List Tk} (h : l≠[]) : hd l∈l:=by
 cases l with
 | nil => exact absurd rfl h
 | cons a l => exact List.mem_cons_self ..
theorem a5B {l : List Tk} {k : Tk} (h : k∈b9 l) : k∈l:=by
 unfold b9 at h
 split at h
 ·exact h
 ·exact List.mem_of_mem_tail h
theorem Lt.step {l r : List Tk} {n : Nat} (h : Lt l n r) (hs : (b9 r).length + 1=r.length) : Lt l (n + 1) (b9 r):=⟨fun k hk => h.1 k (a5B hk),by have:=h.2; omega⟩
theorem Lt.is {l r : List Tk} {n : Nat} (h : Lt l n r) {w : List UInt8} (hs : isT w r=true) : Lt l (n + 1) (b9 r):=h.step (n5 hs)
theorem Lt.any {l r : List Tk} {n : Nat} (h : Lt l n r) {ws : List (List UInt8)} (hs : U0 ws r=true) : Lt l (n + 1) (b9 r):=h.step (gZ hs)
theorem Lt.kind {l r : List Tk} {n : Nat} (h : Lt l n r) {k : Int} (hs : (hd r).kind=k) (hk : k≠0) : Lt l (n + 1) (b9 r)∧GT (hd r):=⟨h.step (cA hs hk),h.1 _ (a7F (a1P hs hk))⟩
theorem V5 : ∀ (a b : List Nd),l7 (a ++ b)=l7 a + l7 b
 | [],b => by rw [List.nil_append,l7]; omega
 | k :: a,b => by rw [List.cons_append,l7,l7,V5 a b]; omega
theorem O1 (t : Nd) : l7 [t]=p9 t:=by rw [l7,l7]; omega
theorem bT (k : Int) (s : List UInt8) (n : Int) (ks : List Nd) (p : Int) : p9 (mkN k s n ks p)=l7 ks + 1:=by unfold mkN; rw [p9]
theorem fW (k : Int) (s : List UInt8) (n : Int) (ks : List Nd) (p : Int) : (mkN k s n ks p).kids=ks:=rfl
theorem a1L (k : Int) (s : List UInt8) (n : Int) (ks : List Nd) (p : Int) : (mkN k s n ks p).text.data.toList=s:=rfl
theorem jT {k n p : Int} {s : List UInt8} {ks : List Nd} (h1 : r5 k ks.length=true) (h2 : L7 k s=true) (h3 : Y7 k n=true) (h4 : ∀ t∈ks,Gd t) : yH (mkN k s n ks p)=true:=by
 rw [a6i,tG,Bool.and_eq_true,Bool.and_eq_true,Bool.and_eq_true]
 exact ⟨⟨⟨h1,h2⟩,h3⟩,List.all_eq_true.2 fun t ht => (h4 t ht).1⟩
theorem a6k {k n p : Int} {s : List UInt8} (h1 : r5 k 0=true) (h2 : L7 k s=true) (h3 : Y7 k n=true) : Gd (mkN k s n [] p) :=
 ⟨jT h1 h2 h3 (fun t ht => by cases ht),by unfold mkN; rw [c8,i7]; omega⟩
theorem jW (k : Int) (s : List UInt8) (n p : Int) : p9 (mkN k s n [] p)=1:=by rw [bT,l7]
def a5p : Md→Prop
 | .loop _ t => Gd t
 | .args acc => (∀ k ∈ acc,Gd k)∧acc.length≤8
 | _ => True
def wM : Md→Nat
 | .loop _ t => p9 t
 | .args acc => l7 acc
 | _ => 0
def tU (m : Md) (l : List Tk) (t : Nd) (r : List Tk) : Prop:=match m with
 | .args acc => (∀ k ∈ t.kids,Gd k)∧1≤t.kids.length∧t.kids.length≤8∧(∀ k ∈ r,GT k)∧l7 t.kids + r.length≤l7 acc + l.length
 | m => Gd t∧(∀ k ∈ r,GT k)∧p9 t + r.length≤wM m + l.length
theorem a3l {lv : Nat} {l : List Tk} (h : U0 (r4 lv) l=true) : dL (hd l).text=true:=by
 have hs : ∀ w∈r4 lv,dL w=true:=by
  unfold r4
  split
  ·decide
  ·split
   ·decide
   ·split
    ·decide
    ·decide
 obtain ⟨w,hw,hi⟩:=List.any_eq_true.1 h
 rw [(cX hi).2]; exact hs w hw
theorem a4K {l : List Tk} (h : U0 jA l=true) : dL (hd l).text=true:=by
 have hs : ∀ w∈jA,dL w=true:=by decide
 obtain ⟨w,hw,hi⟩:=List.any_eq_true.1 h
 rw [(cX hi).2]; exact hs w hw
theorem a3M {s : List UInt8} (h : p7 s=true) : eH s=true:=by rw [← a7o,h]; rfl
theorem a2z {g : Md→Nat→List Tk→Rd} (ih : ∀ m n l,a5p m→(∀ k∈l,GT k)→i8 (tU m l) (g m n l)) (m : Md) (n : Nat) (l : List Tk) (hm : a5p m) (hl : ∀ k∈l,GT k) : i8 (tU m l) (nS g m n l):=by
 have L0:=Lt.refl hl
 have three : ∀ {a b c : Nd} {k : Int} {s : List UInt8} {p : Int} {r : List Tk},r5 k 3=true→L7 k s=true→Y7 k 0=true→Gd a→Gd b→Gd c→(∀ k∈r,GT k)→p9 a + (p9 b + p9 c) + 1 + r.length≤l.length→c8 (mkN k s 0 [a,b,c] p)≤100→Gd (mkN k s 0 [a,b,c] p)∧(∀ k∈r,GT k)∧p9 (mkN k s 0 [a,b,c] p) + r.length≤0 + l.length:=by
  intro a b c k s p r h1 h2 h3 ha hb hc hr hn hd
  refine ⟨⟨jT h1 h2 h3 (fun t ht => ?_),hd⟩,hr,?_⟩
  ·simp only [List.mem_cons,List.not_mem_nil,or_false] at ht
   rcases ht with rfl | rfl | rfl <;> assumption
  ·rw [bT,l7,l7,l7,l7]; omega
 cases m with
 | expr =>
   refine i8.nest (i8.ite (fun h => ?_) fun h => ?_)
   ·have L1:=L0.is h
    refine i8.then (ih .expr _ _ trivial L1.1) ?_
    rintro a r ⟨ga,hr,na⟩
    refine i8.want fun h2 => ?_
    have L2:=(Lt.refl hr).is h2
    refine i8.then (ih .expr _ _ trivial L2.1) ?_
    rintro b r2 ⟨gb,hr2,nb⟩
    refine i8.want fun h3 => ?_
    have L3:=(Lt.refl hr2).is h3
    refine i8.then (ih .expr _ _ trivial L3.1) ?_
    rintro c r3 ⟨gc,hr3,nc⟩
    refine i8.made fun hd => ?_
    have:=L1.2
    have:=L2.2
    have:=L3.2
    simp only [wM] at na nb nc
    exact three (by decide) (by decide) (by decide) ga gb gc hr3 (by omega) hd
   ·refine (ih (.chain 0) _ _ trivial hl).mono ?_
    rintro t r h; exact h
 | chain lv =>
   refine i8.then (Q:=fun t r => Gd t∧(∀ k∈r,GT k)∧p9 t + r.length≤0 + l.length) ?_ ?_
   ·have : ∃ m',D5 lv=m'∧a5p m'∧wM m'=0∧(∀ t r,tU m' l t r→Gd t∧(∀ k∈r,GT k)∧p9 t + r.length≤0 + l.length):=by
     unfold D5
     split
     ·exact ⟨_,rfl,trivial,rfl,fun t r h => h⟩
     ·split
      ·exact ⟨_,rfl,trivial,rfl,fun t r h => h⟩
      ·split
       ·exact ⟨_,rfl,trivial,rfl,fun t r h => h⟩
       ·exact ⟨_,rfl,trivial,rfl,fun t r h => h⟩
    obtain ⟨m',e,h1,-,h2⟩:=this
    rw [e]
    exact (ih m' _ _ h1 hl).mono h2
   ·rintro t r ⟨gt,hr,nt⟩
    refine (ih (.loop lv t) _ _ gt hr).mono ?_
    rintro u q ⟨gu,hq,nu⟩
    simp only [wM] at nu
    exact ⟨gu,hq,by simp only [wM]; omega⟩
 | loop lv t =>
   refine i8.ite (fun h => ?_) fun h => ?_
   ·have L1:=L0.any h
    refine i8.then (Q:=fun t r => Gd t∧(∀ k∈r,GT k)∧p9 t + r.length≤0 + (b9 l).length) ?_ ?_
    ·have : ∃ m',D5 lv=m'∧a5p m'∧(∀ t r,tU m' (b9 l) t r→Gd t∧(∀ k∈r,GT k)∧p9 t + r.length≤0 + (b9 l).length):=by
      unfold D5
      split
      ·exact ⟨_,rfl,trivial,fun t r h => h⟩
      ·split
       ·exact ⟨_,rfl,trivial,fun t r h => h⟩
       ·split
        ·exact ⟨_,rfl,trivial,fun t r h => h⟩
        ·exact ⟨_,rfl,trivial,fun t r h => h⟩
     obtain ⟨m',e,h1,h2⟩:=this
     rw [e]
     exact (ih m' _ _ h1 L1.1).mono h2
    ·rintro u r ⟨gu,hr,nu⟩
     refine i8.then (Q:=fun v q => Gd v∧(∀ k∈q,GT k)∧p9 v + q.length≤p9 t + l.length) (i8.made fun hd => ?_) ?_
     ·refine ⟨⟨jT (show r5 13 2=true by decide) (a3l h) (by decide) (fun v hv => ?_),hd⟩,hr,?_⟩
      ·simp only [List.mem_cons,List.not_mem_nil,or_false] at hv
       rcases hv with rfl | rfl
       ·exact hm
       ·exact gu
      ·rw [bT,l7,l7,l7]
       have:=L1.2
       omega
     ·rintro v q ⟨gv,hq,nv⟩
      refine (ih (.loop lv v) _ _ gv hq).mono ?_
      rintro x y ⟨gx,hy,nx⟩
      simp only [wM] at nx
      exact ⟨gx,hy,by simp only [wM]; omega⟩
   ·exact i8.ok ⟨hm,hl,by simp only [wM]; omega⟩
 | not =>
   refine i8.ite (fun h => ?_) fun h => ?_
   ·have L1:=L0.is h
    refine i8.nest (i8.then (ih .not _ _ trivial L1.1) ?_)
    rintro t r ⟨gt,hr,nt⟩
    refine i8.made fun hd => ?_
    refine ⟨⟨jT (show r5 12 1=true by decide) (by rw [(cX h).2]; decide) (by decide) (fun v hv => ?_),hd⟩,hr,?_⟩
    ·rw [List.mem_singleton.1 hv]; exact gt
    ·rw [bT,O1]
     have:=L1.2
     simp only [wM] at nt ⊢
     omega
   ·refine i8.then (ih (.chain 2) _ _ trivial hl) ?_
    rintro a r ⟨ga,hr,na⟩
    simp only [wM] at na
    refine i8.ite (fun h2 => ?_) fun h2 => ?_
    ·have L1:=(Lt.refl hr).any h2
     refine i8.then (ih (.chain 2) _ _ trivial L1.1) ?_
     rintro b q ⟨gb,hq,nb⟩
     simp only [wM] at nb
     refine i8.made fun hd => ?_
     refine ⟨⟨jT (show r5 13 2=true by decide) (a4K h2) (by decide) (fun v hv => ?_),hd⟩,hq,?_⟩
     ·simp only [List.mem_cons,List.not_mem_nil,or_false] at hv
      rcases hv with rfl | rfl
      ·exact ga
      ·exact gb
     ·rw [bT,l7,l7,l7]
      have:=L1.2
      simp only [wM]
      omega
    ·exact i8.ok ⟨ga,hr,by simp only [wM]; omega⟩
 | unary =>
   refine i8.ite (fun h => ?_) fun h => ?_
   ·have L1:=L0.is h
    refine i8.nest (i8.then (ih .unary _ _ trivial L1.1) ?_)
    rintro t r ⟨gt,hr,nt⟩
    refine i8.made fun hd => ?_
    refine ⟨⟨jT (show r5 12 1=true by decide) (by rw [(cX h).2]; decide) (by decide) (fun v hv => ?_),hd⟩,hr,?_⟩
    ·rw [List.mem_singleton.1 hv]; exact gt
    ·rw [bT,O1]
     have:=L1.2
     simp only [wM] at nt ⊢
     omega
   ·exact (ih .atom _ _ trivial hl).mono fun t r h => h
 | atom =>
   have leaf : ∀ {k n p : Int} {s : List UInt8} {r : List Tk} {j : Nat},Lt l (j + 1) r→r5 k 0=true→L7 k s=true→Y7 k n=true→i8 (tU .atom l) (.ok (mkN k s n [] p,r)):=by
    intro k n p s r j L h1 h2 h3
    refine i8.ok ⟨a6k h1 h2 h3,L.1,?_⟩
    rw [jW]
    have:=L.2
    simp only [wM]
    omega
   refine i8.ite (fun h => ?_) fun _ => ?_
   ·obtain ⟨L1,g⟩:=L0.kind h (by decide)
    exact leaf L1 (by decide) (by decide) (by have:=g.num h; unfold Y7; rw [if_pos rfl,decide_eq_true this.1,decide_eq_true this.2]; rfl)
   refine i8.ite (fun h => ?_) fun _ => ?_
   ·obtain ⟨L1,g⟩:=L0.kind h (by decide)
    exact leaf L1 (by decide) (by decide) (by have:=g.day h; unfold Y7; rw [if_neg (by decide),if_pos rfl,decide_eq_true this.1,decide_eq_true this.2]; rfl)
   refine i8.ite (fun h => ?_) fun _ => ?_
   ·obtain ⟨L1,g⟩:=L0.kind h (by decide)
    exact leaf L1 (by decide) (g.cur h) (by decide)
   refine i8.ite (fun h => ?_) fun _ => ?_
   ·have hx : Lt l 1 (b9 l)∧eH (hd l).text=true:=by
     rcases h with h | h
     ·obtain ⟨L1,g⟩:=L0.kind h (by decide)
      exact ⟨L1,a3M (g.name h)⟩
     ·obtain ⟨L1,g⟩:=L0.kind h (by decide)
      exact ⟨L1,g.far h⟩
    obtain ⟨L1,hany⟩:=hx
    refine i8.ite (fun h2 => ?_) fun _ => ?_
    ·have L2:=L1.is h2
     refine i8.then (ih (.args []) _ _ ⟨(fun k hk => by cases hk),by simp⟩ L2.1) ?_
     rintro a r ⟨ga,h1,h8,hr,na⟩
     refine i8.made fun hd => ?_
     refine ⟨⟨jT (by unfold r5; rw [if_neg (by decide),if_pos rfl,decide_eq_true h1,decide_eq_true h8]; rfl) hany (by decide) ga,hd⟩,hr,?_⟩
     rw [bT]
     have:=L2.2
     rw [l7] at na
     simp only [wM]
     omega
    ·exact leaf L1 (by decide) hany (by decide)
   refine i8.ite (fun h => ?_) fun _ => ?_
   ·exact leaf (L0.is h) (by decide) (by decide) (by decide)
   refine i8.ite (fun h => ?_) fun _ => ?_
   ·exact leaf (L0.is h) (by decide) (by decide) (by decide)
   refine i8.ite (fun h => ?_) fun _ => ?_
   ·refine i8.kind fun h2 => ?_
    obtain ⟨L2,g⟩:=(L0.is h).kind h2 (by decide)
    exact leaf L2 (by decide) (g.str h2) (by decide)
   refine i8.ite (fun h => ?_) fun _ => ?_
   ·refine i8.kind fun h2 => ?_
    obtain ⟨L2,g⟩:=(L0.is h).kind h2 (by decide)
    refine i8.want fun h3 => ?_
    have L3:=L2.is h3
    refine i8.then (ih .expr _ _ trivial L3.1) ?_
    rintro a r ⟨ga,hr,na⟩
    refine i8.want fun h4 => ?_
    have L4:=(Lt.refl hr).is h4
    refine i8.then (ih .expr _ _ trivial L4.1) ?_
    rintro b r2 ⟨gb,hr2,nb⟩
    refine i8.want fun h5 => ?_
    have L5:=(Lt.refl hr2).is h5
    refine i8.then (ih .expr _ _ trivial L5.1) ?_
    rintro c r3 ⟨gc,hr3,nc⟩
    refine i8.want fun h6 => ?_
    have L6:=(Lt.refl hr3).is h6
    refine i8.made fun hd => ?_
    have:=L3.2
    have:=L4.2
    have:=L5.2
    have:=L6.2
    simp only [wM] at na nb nc
    exact three (by decide) (g.str h2) (by decide) ga gb gc L6.1 (by omega) hd
   refine i8.ite (fun h => ?_) fun _ => ?_
   ·have L1:=L0.is h
    refine i8.then (ih .expr _ _ trivial L1.1) ?_
    rintro x r ⟨gx,hr,nx⟩
    refine i8.want fun h2 => ?_
    have L2:=(Lt.refl hr).is h2
    have:=L1.2
    have:=L2.2
    simp only [wM] at nx
    exact i8.ok ⟨gx,L2.1,by simp only [wM]; omega⟩
   ·exact i8.error (by decide)
 | args acc =>
   refine i8.ite (fun h => i8.error (by decide)) fun h => ?_
   refine i8.then (ih .expr _ _ trivial hl) ?_
   rintro t r ⟨gt,hr,nt⟩
   simp only [wM] at nt
   have hm1:=hm.1
   have hm2:=hm.2
   have hg : ∀ k∈acc ++ [t],Gd k:=fun k hk => by
    rcases List.mem_append.1 hk with h | h
    ·exact hm1 k h
    ·rw [List.mem_singleton.1 h]; exact gt
   have hlen : (acc ++ [t]).length=acc.length + 1:=by rw [List.length_append]; rfl
   refine i8.ite (fun h2 => ?_) fun h2 => ?_
   ·have L1:=(Lt.refl hr).is h2
    refine (ih (.args (acc ++ [t])) _ _ ⟨hg,by omega⟩ L1.1).mono ?_
    rintro u q ⟨gu,h1,h8,hq,nu⟩
    refine ⟨gu,h1,h8,hq,?_⟩
    rw [V5,O1] at nu
    have:=L1.2
    omega
   ·refine i8.want fun h3 => ?_
    have L1:=(Lt.refl hr).is h3
    refine i8.ok ⟨hg,?_,?_,L1.1,?_⟩
    ·rw [fW]; omega
    ·rw [fW]; omega
    ·rw [fW,V5,O1]
     have:=L1.2
     omega
theorem zD : ∀ (f : Nat) (m : Md) (n : Nat) (l : List Tk),a5p m→(∀ k∈l,GT k)→i8 (tU m l) (a5E f m n l)
 | 0,_,_,_,_,_ => i8.error (by decide)
 | f + 1,m,n,l,hm,hl => a2z (fun m n l h h' => zD f m n l h h') m n l hm hl
theorem a6U (n : Nat) {l : List Tk} (hl : ∀ k∈l,GT k) : i8 (fun t r => Gd t∧(∀ k∈r,GT k)∧p9 t + r.length≤l.length) (rd .expr n l) :=
 (zD _ .expr n l trivial hl).mono fun t r h => ⟨h.1,h.2.1,by have:=h.2.2; simp only [wM] at this; omega⟩
end Go.Proofs.YtibiccacafjjfaaGreatDoor
