/-
  Laws that the proof rests on.
-/
import Derived.Test.YtppcfebnaieciaaGreatDoorF20
import Derived.Test.YtppcfebnaieciaaGreatDoorF03
import Derived.Deep.Cut
namespace Go.Proofs.YtppcfebnaieciaaGreatDoor
set_option maxRecDepth 100000
set_option maxHeartbeats 16000000
structure LetOf (k : Nd) (d : Sch) : Prop where
 kind : k.kind=3
 name : d.name=k.text.data.toList
 pars : (d.params.length : Int)=(k.kids.length : Int) - 1
 good : aK d=true
theorem a1g {d : Sch} (hn : l3 d.name=true) (h : O8 d) : aK d=true:=by
 unfold aK p9
 simp only [Bool.and_eq_true,decide_eq_true_eq,List.all_eq_true]
 exact ⟨⟨⟨hn,h.2 _ (by simp)⟩,h.1⟩,fun t ht => h.2 t (List.mem_append_left _ ht)⟩
theorem wX (own : List UInt8) (sheets : List Sht) (t : Nd) (s : Sht) : p8 own [] sheets t≠.ok s:=by
 unfold p8
 split
 ·exact fun h => by cases h
 ·exact fun h => by cases h
theorem xY {own : List UInt8} : ∀ (ks : List Nd) (defs ds : List Sch),(∀ k∈ks,k.kind≠2→H6 k=true)→(∀ d∈defs,O8 d)→n6 own [] ks [] defs=.ok ds →
 ∃ es,ds=defs ++ es∧es.length=ks.length∧∀ j (h : j<ks.length) (h' : j<es.length),LetOf ks[j] es[j]
 | [],defs,ds,_,_,h => by
   rw [n6] at h
   cases h
   exact ⟨[],by simp,rfl,fun j h => absurd h (Nat.not_lt_zero _)⟩
 | k :: ks,defs,ds,hk,hd,h => by
   rw [n6] at h
   split at h
   ·cases hb : p8 own [] [] k with
    | error e => rw [hb] at h; cases h
    | ok s => exact (wX _ _ _ _ hb).elim
   ·rename_i h2
    cases hl : Y1 [] defs k with
    | error e => rw [hl] at h; cases h
    | ok d =>
      rw [hl] at h
      simp only at h
      have hln:=hk k (List.mem_cons_self ..) h2
      obtain ⟨g1,g2,g3,g4⟩:=tL (lM (fun s hs => (List.not_mem_nil hs).elim) hd) hln hl
      have hp:=hJ hln
      obtain ⟨es,e1,e2,e3⟩:=xY ks (defs ++ [d]) ds (fun k' h' => hk k' (List.mem_cons_of_mem _ h')) (fun x hx => by
       rcases List.mem_append.1 hx with hx | hx
       ·exact hd x hx
       ·obtain rfl:=List.mem_singleton.1 hx; exact g3) h
      refine ⟨d :: es,by rw [e1,List.append_assoc]; rfl,by simp [e2],fun j h h' => ?_⟩
      cases j with
      | zero =>
        rw [aR] at hln
        simp only [Bool.and_eq_true,beq_iff_eq] at hln
        exact ⟨hln.1.1.1.1.1,g1,by have:=hp.2.1; simp only [List.getElem_cons_zero,g2]; omega,a1g (by show l3 d.name=true; rw [g1]; exact hp.1) g3⟩
      | succ j => exact e3 j (by simpa using h) (by simpa using h')
theorem eJ {t : Nd} {s : Sht} (h : r9 t []=.ok s) : J4 t=true∧o7 s=true∧s.name=t.text.data.toList∧s.defs.length=t.kids.length∧∀ j (h : j<t.kids.length) (h' : j<s.defs.length),LetOf t.kids[j] s.defs[j]:=by
 unfold r9 at h
 split at h
 ·rename_i hm
  cases hk : n6 t.text.data.toList [] t.kids [] [] with
  | error e => rw [hk] at h; cases h
  | ok ds =>
    rw [hk] at h
    cases h
    obtain ⟨es,e1,e2,e3⟩:=xY t.kids [] ds (fun k hk h2 => by
     obtain ⟨j,hj,rfl⟩:=List.getElem_of_mem hk
     rcases yT hm.1 j hj with ⟨a,-⟩ | ⟨-,b⟩
     ·exact (h2 a).elim
     ·exact b) (fun d hd => (List.not_mem_nil hd).elim) hk
    rw [List.nil_append] at e1
    subst e1
    refine ⟨hm.1,?_,rfl,e2,e3⟩
    unfold o7
    simp only [Bool.and_eq_true,decide_eq_true_eq,List.all_eq_true]
    refine ⟨⟨(cR hm.1).2.1,?_⟩,fun d hd => ?_⟩
    ·have h0 : q9 t.kids=0:=by
      cases hks : t.kids with
      | nil => rfl
      | cons k r =>
        have h3:=e3 0 (by rw [hks]; simp) (by rw [e2,hks]; simp)
        have hk3 : k.kind=3:=by
         have:=h3.kind
         simp only [hks,List.getElem_cons_zero] at this
         exact this
        unfold q9
        rw [List.takeWhile_cons,if_neg (fun e => by have:=(E0 e).2.1; omega)]
        rfl
     have h2:=hm.1
     unfold J4 at h2
     simp only [Bool.and_eq_true,decide_eq_true_eq] at h2
     have:=h2.2.1.2
     show ds.length≤200
     omega
    ·obtain ⟨j,hj,rfl⟩:=List.getElem_of_mem hd
     exact (e3 j (by omega) hj).good
 ·cases h
theorem a0Z {E : Env7} {S : List Int} {kind p : Int} {s : List UInt8} {k : Nat} {c q : Int} (h : bX E kind s k p S=.error (c,q)) : c≠0:=by
 unfold bX at h
 split at h; · cases h
 split at h; · cases h
 split at h; · cases h
 split at h; · cases h
 split at h
 ·split at h <;> cases h
 split at h; · cases h
 split at h; · cases h
 split at h
 ·split at h
  ·cases h
  ·split at h <;> cases h
 split at h
 ·split at h
  ·cases h
  ·cases h; decide
 ·split at h
  ·cases h; decide
  ·split at h
   ·cases h
   ·cases h; decide
mutual
theorem rN {E : Env7} : ∀ (t : Nd) (S : List Int) (c q : Int),g9 E t S=.error (c,q)→c≠0
 | .mk kind s n ks p,S,c,q,h => by
   rw [g9] at h
   cases hw : bX E kind s.data.toList ks.length p S with
   | error e =>
     rw [hw] at h
     cases h
     exact a0Z hw
   | ok l =>
     rw [hw] at h
     obtain ⟨l,S1⟩:=l
     replace h : ((o4 E ks l.1 S1).then fun _ S => .ok (l.2,S))=.error (c,q):=h
     cases hk : o4 E ks l.1 S1 with
     | error e =>
       rw [hk] at h
       cases h
       exact oC ks _ _ _ _ hk
     | ok u => rw [hk] at h; cases h
theorem oC {E : Env7} : ∀ (ks : List Nd) (l S : List Int) (c q : Int),o4 E ks l S=.error (c,q)→c≠0
 | [],l,S,c,q,h => by rw [o4] at h; cases h
 | k :: ks,l,S,c,q,h => by
   rw [o4] at h
   cases hk : g9 E k S with
   | error e =>
     rw [hk] at h
     cases h
     exact rN k _ _ _ hk
   | ok u =>
     rw [hk] at h
     obtain ⟨t,S1⟩:=u
     replace h : (match cE S1 t (l.headD 0) with
      | none => (Except.error (115,k.place) : Ty Unit)
      | some S => o4 E ks l.tail S)=.error (c,q):=h
     cases hu : cE S1 t (l.headD 0) with
     | none => rw [hu] at h; cases h; decide
     | some S2 => rw [hu] at h; exact oC ks _ _ _ _ h
end
theorem rP : ∀ (ks : List Nd) (l : List (List UInt8)) (c q : Int),F7 ks l=.error (c,q)→c≠0
 | [],l,c,q,h => by rw [F7] at h; cases h
 | k :: ks,l,c,q,h => by
   rw [F7] at h
   split at h
   ·cases h; decide
   ·exact rP ks _ _ _ h
theorem a35 {sheets : List Sht} {defs : List Sch} {t : Nd} {c q : Int} (h : Y1 sheets defs t=.error (c,q)) : c≠0:=by
 unfold Y1 at h
 split at h
 ·cases h; decide
 ·cases hp : F7 t.kids.dropLast [] with
  | error e =>
    rw [hp] at h
    cases h
    exact rP _ _ _ _ hp
  | ok ps =>
    rw [hp] at h
    simp only at h
    cases ht : g9 ⟨sheets,defs,ps⟩ (D6 t) (l5 ps.length) with
    | error e =>
      rw [ht] at h
      cases h
      exact rN _ _ _ _ ht
    | ok r => rw [ht] at h; cases h
theorem a1f {own : List UInt8} {all sheets : List Sht} {t : Nd} {c q : Int} (h : p8 own all sheets t=.error (c,q)) : c≠0:=by
 unfold p8 at h
 split at h
 ·cases h; decide
 ·split at h
  ·cases h; decide
  ·cases h
theorem kK {own : List UInt8} {all : List Sht} : ∀ (ks : List Nd) (sheets : List Sht) (defs : List Sch) (c q : Int),n6 own all ks sheets defs=.error (c,q)→c≠0
 | [],sheets,defs,c,q,h => by rw [n6] at h; cases h
 | k :: ks,sheets,defs,c,q,h => by
   rw [n6] at h
   split at h
   ·cases hb : p8 own all sheets k with
    | error e => rw [hb] at h; cases h; exact a1f hb
    | ok s => rw [hb] at h; exact kK ks _ _ _ _ h
   ·cases hl : Y1 sheets defs k with
    | error e => rw [hl] at h; cases h; exact a35 hl
    | ok d => rw [hl] at h; exact kK ks _ _ _ _ h
theorem a3p {t : Nd} {all : List Sht} {c q : Int} (h : r9 t all=.error (c,q)) : c≠0:=by
 unfold r9 at h
 split at h
 ·cases hk : n6 t.text.data.toList all t.kids [] [] with
  | error e => rw [hk] at h; cases h; exact kK _ _ _ _ _ hk
  | ok ds => rw [hk] at h; cases h
 ·cases h; decide
theorem a1M {t : Nd} {s : Sht} (h : r9 t []=.ok s) : ∀ k∈t.kids,k.kind=3:=fun x hx => by
 obtain ⟨-,-,-,h4,h5⟩:=eJ h
 obtain ⟨j,hj,rfl⟩:=List.getElem_of_mem hx
 exact (h5 j hj (by omega)).kind
theorem a03 {t : Nd} {all : List Sht} {s : Sht} (h : r9 t all=.ok s) : J4 t=true∧all.all o7=true∧s.name=t.text.data.toList∧n6 t.text.data.toList all t.kids [] []=.ok s.defs:=by
 unfold r9 at h
 split at h
 ·rename_i hm
  cases hk : n6 t.text.data.toList all t.kids [] [] with
  | error e => rw [hk] at h; cases h
  | ok ds =>
    rw [hk] at h
    cases h
    exact ⟨hm.1,hm.2,rfl,rfl⟩
 ·cases h
section
open Lib (hid)
open Go.RowKit Go.Maps
theorem eC.all {av : Nat→Prop} {v : Value} {g : List UInt8→Option Sch} {w : World} (h : eC av v g w) {s : ByteArray} (hs : s.data.toList.length≤maxLen) : ∃ (nm : ByteArray) (pa : Option Addr) (pn pc : Nat) (r : Int),∀ cur : World,(∀ b,av b→cur.heap[b]?=w.heap[b]?)→(Instr.lookup 56 v (.string s) true).run Tryz.prog cur=.ok (.tuple #[.agg #[.string nm,.slice pa pn pc,.int .i64 r],.bool (g s.data.toList).isSome]) cur:=by
 have hbt:=bR s
 obtain ⟨b,n,f,rfl,hb,h2,-,h4⟩:=h
 have h5:=h4 s.data.toList
 have hl : ∀ cur : World,(∀ b,av b→cur.heap[b]?=w.heap[b]?)→_:=fun cur hc => ((h2.kept (hc b hb)).look dE Tryz.underlying56 (qU cur) (bC hs)).1
 rw [hbt] at hl
 cases e : g s.data.toList with
 | none =>
   rw [e] at h5
   rw [show f (.string s.data.toList)=none from h5] at hl
   exact ⟨_,_,_,_,_,hl⟩
 | some d =>
   rw [e] at h5
   obtain ⟨v,e1,pa,pc,rfl,-⟩:=h5
   rw [e1] at hl
   exact ⟨_,_,_,_,_,hl⟩
def gQ (F : Nat) (m0 m1 m2 : Value) (w : World) : Prop:=∃ x3 x4 x5,w.heap[F]?=some (.cells #[m0,m1,m2,x3,x4,x5] 63 (0,0))
theorem gQ.cells {F : Nat} {m0 m1 m2 : Value} {w : World} (h : gQ F m0 m1 m2 w) : w.cell? ⟨F,0,none⟩=some m0∧w.cell? ⟨F,1,none⟩=some m1∧w.cell? ⟨F,2,none⟩=some m2∧F<w.heap.size:=by
 obtain ⟨x3,x4,x5,hb⟩:=h
 exact ⟨by simp [World.cell?,hb],by simp [World.cell?,hb],by simp [World.cell?,hb],(Array.getElem?_eq_some_iff.1 hb).1⟩
theorem gQ.below {F : Nat} {m0 m1 m2 : Value} {w w' : World} (h : gQ F m0 m1 m2 w) (hb : Below w.heap.size w w') : gQ F m0 m1 m2 w':=by
 have:=h.cells.2.2.2
 obtain ⟨x3,x4,x5,h1⟩:=h
 exact ⟨x3,x4,x5,(hb.block F this).trans h1⟩
structure LEnv (sheets : List Sht) (defs : List Sch) (B F : Nat) (m0 m1 m2 : Value) (w : World) : Prop where
 sheets : dI (Av B F) m0 (j8 sheets) w
 defs : eC (Av B F) m1 (j4 defs) w
 built : eC (Av B F) m2 (j4 l6) w
 env : Av B F 2∧Env w
def a15 (sheets : List Sht) (defs : List Sch) (t : Nd) (F : Nat) (m0 m1 m2 : Value) (w : World) (e : Ending) (w' : World) : Prop:=match Y1 sheets defs t with
 | .error (k,p) => e=pY k p∧Off w.heap.size F w w'
 | .ok d => ∃ g cap,e=.returned (.agg #[.string t.text,.slice (some ⟨g,0,none⟩) d.params.length cap,.int .i64 d.result])∧w.heap.size≤g∧g < w'.heap.size∧d.params.length≤cap∧cap≤maxLen∧(∀ j (hj : j < d.params.length),w'.cell? ⟨g,j,none⟩=some (.int .i64 d.params[j]))∧Off w.heap.size F w w'∧gQ F m0 m1 m2 w'
theorem pS {sheets : List Sht} {defs : List Sch} {t : Nd} {F : Nat} {m0 m1 m2 : Value} {w w' : World} {k p : Int} (hx : Y1 sheets defs t=.error (k,p)) (ho : Off w.heap.size F w w') : a15 sheets defs t F m0 m1 m2 w (pY k p) w':=by
 unfold a15
 rw [hx]
 exact ⟨rfl,ho⟩
theorem a1v (n₀ F : Nat) (sheets : List Sht) (defs : List Sch) (m0 m1 m2 : Value) (t : Nd) (a : Option Addr) (cap : Nat) (w : World) (hh : t.hold n₀ w a cap) (h1 : n₀≤F) (hF : gQ F m0 m1 m2 w) (hE : LEnv sheets defs w.heap.size F m0 m1 m2 w) (hM : ∀ ps s d,E8 ⟨sheets,defs,ps⟩ s=some d→O8 d) (hl : H6 t=true) (hnd : i7 t≤8192) :
 Calls Tryz.prog 30 #[.pointer (some ⟨F,0,none⟩),.agg #[.int .i64 t.kind,.string t.text,.int .i64 t.n,.slice a t.kids.length cap,.int .i64 t.place]] w (a15 sheets defs t F m0 m1 m2 w):=by
 have hts : t.text.data.toList.length≤24:=by
  rw [aR] at hl
  simp only [Bool.and_eq_true] at hl
  exact o0 hl.1.1.1.1.2
 have hFs:=hF.cells.2.2.2
 obtain ⟨W1,hW1⟩ : ∃ W,W=(w.alloc (.cells #[.int .i64 t.kind,.string t.text,.int .i64 t.n,.slice a t.kids.length cap,.int .i64 t.place] 24)).alloc (.cells #[.string ⟨#[]⟩,.slice none 0 0,.int .i64 0] 36):=⟨_,rfl⟩
 have B1:=hid (show Below w.heap.size w W1 from hW1 ▸ ((a7 _ _).alloc (by simp) _))
 have Z1:=hid (show W1.heap.size=w.heap.size + 2 by rw [hW1]; simp)
 have N1:=hid (show c6 w.heap.size t a cap W1 by
  have:=(c6.make w t a cap).below (a7 _ (.cells #[.string ⟨#[]⟩,.slice none 0 0,.int .i64 0] 36))
  rwa [← hW1] at this)
 have K1:=hid (show y5 (w.heap.size + 1) ⟨#[]⟩ none 0 0 0 W1 by unfold y5; rw [hW1]; exact O0 _ _ (by simp))
 obtain ⟨nb,pab,pnb,pcb,rb,hlb⟩:=hE.built.all (s:=t.text) (by unfold maxLen; omega)
 obtain ⟨nd,pad,pnd,pcd,rd,hld⟩:=hE.defs.all (s:=t.text) (by unfold maxLen; omega)
 have HLB:=hid (show ∀ cur,Below W1.heap.size W1 cur→_ from fun cur hb => hlb cur fun b h => ((hb.block b (by have:=h.1; have:=Z1.out; omega)).trans (B1.out.block b h.1)))
 have HLD:=hid (show ∀ cur,Below W1.heap.size W1 cur→_ from fun cur hb => hld cur fun b h => ((hb.block b (by have:=h.1; have:=Z1.out; omega)).trans (B1.out.block b h.1)))
 have HS:=hid (show ∀ cur,Below W1.heap.size W1 cur→c6 w.heap.size t a cap cur∧gQ F m0 m1 m2 cur∧y5 (w.heap.size + 1) ⟨#[]⟩ none 0 0 0 cur from fun cur hb => ⟨N1.out.below hb,(hF.below B1).below hb,K1.out.below hb⟩)
 have HH:=hid hh
 have HF:=hid hF
 have HE:=hid hE
 have HM:=hid hM
 have HL:=hid hl
 have HND:=hid hnd
 have HN0:=hid (show n₀≤F∧F<w.heap.size from ⟨h1,hFs⟩)
 clear hh hF hE hM hl hnd hlb hld h1 hts hFs
 go_enter Tryz.func30,Tryz.ntmps30
 go_upto_region 1 with fail
 rw [← hW1]
 clear hW1
 go_cut [5,6] from 21 to 31 (fun _ s6 wx => s6=.bool (j4 l6 t.text.data.toList).isSome∧Hid (Below W1.heap.size W1 wx))
 case first =>
  have HB0:=hid (show Below W1.heap.size W1 W1.drew from r8 (Below.refl W1.heap.size W1))
  obtain ⟨⟨n0,n1,n2,n3,n4⟩,-⟩:=(HS.out _ HB0).1.cells
  obtain ⟨f0,f1,f2,hFl⟩:=(HS.out _ HB0).2.1.cells
  refine wp_region_held_drew (S:=fun cur => Below W1.heap.size W1 cur∧cur.cell? ⟨F,2,none⟩=some m2∧cur.cell? ⟨w.heap.size,1,none⟩=some (.string t.text)∧(Instr.lookup 56 m2 (.string t.text) true).run Tryz.prog cur=.ok (.tuple #[.agg #[.string nb,.slice pab pnb pcb,.int .i64 rb],.bool (j4 l6 t.text.data.toList).isSome]) cur) (by kernel_rfl) ?_ (fun hHeld => ?_)
  ·exact ⟨HB0,f2,n1,HLB.out _ HB0⟩
  refine a8 0 ?_; refine a8 1 ?_; refine a8 2 ?_; refine a8 3 ?_; refine a8 4 ?_; refine a8 5 ?_; refine a8 6 ?_; refine a8 7 ?_; refine a8 8 ?_; refine a8 9 ?_
  refine wpAnyH_ready (rs:=[10]) (by kernel_rfl) (by simp) ?_
  refine AllReadyH.cons (r6 rfl) (fun K hK => ?_) AllReadyH.nil
  go_simp
  obtain ⟨W2,hW2⟩ : ∃ W,W=(W1.alloc (.cells #[.string ⟨#[]⟩,.slice none 0 0,.int .i64 0] 36)).drew:=⟨_,rfl⟩
  have HB2:=hid (show Below W1.heap.size W1 W2 from hW2 ▸ r8 (((Below.refl W1.heap.size W1)).alloc ((Below.refl W1.heap.size W1)).size _))
  have K2:=hid (show y5 W1.heap.size ⟨#[]⟩ none 0 0 0 W2 by rw [hW2]; exact y5.make _ _ _ _ _ _)
  have hW1s:=((Below.refl W1.heap.size W1)).size
  rw [← hW2]
  clear hW2
  obtain ⟨⟨q0,q1,q2,q3,q4⟩,-⟩:=(HS.out _ HB2).1.cells
  obtain ⟨g0,g1,g2,hFl2⟩:=(HS.out _ HB2).2.1.cells
  refine hK.out _ _ ⟨HB2,g2,q1,HLB.out _ HB2⟩ (fun hHeld => ?_)
  clear hK K
  try simp only [Act.put,j6,v6,v7]
  obtain ⟨⟨k0,k1,k2⟩,⟨l0,l1,l2⟩,hkl⟩:=K2.out.cells
  refine wpAnyH_ready (rs:=[11]) (by kernel_rfl) (by simp) ?_
  refine AllReadyH.cons (r6 rfl) (fun K hK => ?_) AllReadyH.nil
  go_simp
  obtain ⟨W3,hW3⟩ : ∃ W,W=mM W2 W1.heap.size nb pab pnb pcb rb:=⟨_,rfl⟩
  have HB3:=hid (show Below W1.heap.size W1 W3 from hW3 ▸ F9 HB2 hW1s _ _ _ _ _)
  unfold mM at hW3
  rw [← hW3]
  clear hW3
  obtain ⟨⟨q0,q1,q2,q3,q4⟩,-⟩:=(HS.out _ HB3).1.cells
  obtain ⟨g0,g1,g2,hFl2⟩:=(HS.out _ HB3).2.1.cells
  refine hK.out _ _ ⟨HB3,g2,q1,HLB.out _ HB3⟩ (fun hHeld => ?_)
  clear hK K
  try simp only [Act.put,j6,v6,v7]
  refine a8 12 ?_
  refine wpAnyH_done (by kernel_rfl) ?_ _
  go_wp2_with fail
  go_meet
  case rel => exact ⟨rfl,HB3⟩
 case rest =>
 obtain ⟨rfl,HBA⟩:=hcut
 clear HLB
 generalize wc=WA at HBA ⊢
 go_upto_region 2 with fail
 go_cut [7,8] from 31 to 41 (fun _ s6 wx => s6=.bool (j4 defs t.text.data.toList).isSome∧Hid (Below W1.heap.size W1 wx))
 case first =>
  have HB0:=hid (show Below W1.heap.size W1 WA.drew from r8 HBA)
  obtain ⟨⟨n0,n1,n2,n3,n4⟩,-⟩:=(HS.out _ HB0).1.cells
  obtain ⟨f0,f1,f2,hFl⟩:=(HS.out _ HB0).2.1.cells
  refine wp_region_held_drew (S:=fun cur => Below W1.heap.size W1 cur∧cur.cell? ⟨F,1,none⟩=some m1∧cur.cell? ⟨w.heap.size,1,none⟩=some (.string t.text)∧(Instr.lookup 56 m1 (.string t.text) true).run Tryz.prog cur=.ok (.tuple #[.agg #[.string nd,.slice pad pnd pcd,.int .i64 rd],.bool (j4 defs t.text.data.toList).isSome]) cur) (by kernel_rfl) ?_ (fun hHeld => ?_)
  ·exact ⟨HB0,f1,n1,HLD.out _ HB0⟩
  refine a8 0 ?_; refine a8 1 ?_; refine a8 2 ?_; refine a8 3 ?_; refine a8 4 ?_; refine a8 5 ?_; refine a8 6 ?_; refine a8 7 ?_; refine a8 8 ?_; refine a8 9 ?_
  refine wpAnyH_ready (rs:=[10]) (by kernel_rfl) (by simp) ?_
  refine AllReadyH.cons (r6 rfl) (fun K hK => ?_) AllReadyH.nil
  go_simp
  obtain ⟨W2,hW2⟩ : ∃ W,W=(WA.alloc (.cells #[.string ⟨#[]⟩,.slice none 0 0,.int .i64 0] 36)).drew:=⟨_,rfl⟩
  have HB2:=hid (show Below W1.heap.size W1 W2 from hW2 ▸ r8 ((HBA).alloc (HBA).size _))
  have K2:=hid (show y5 WA.heap.size ⟨#[]⟩ none 0 0 0 W2 by rw [hW2]; exact y5.make _ _ _ _ _ _)
  have hW1s:=(HBA).size
  rw [← hW2]
  clear hW2
  obtain ⟨⟨q0,q1,q2,q3,q4⟩,-⟩:=(HS.out _ HB2).1.cells
  obtain ⟨g0,g1,g2,hFl2⟩:=(HS.out _ HB2).2.1.cells
  refine hK.out _ _ ⟨HB2,g1,q1,HLD.out _ HB2⟩ (fun hHeld => ?_)
  clear hK K
  try simp only [Act.put,j6,v6,v7]
  obtain ⟨⟨k0,k1,k2⟩,⟨l0,l1,l2⟩,hkl⟩:=K2.out.cells
  refine wpAnyH_ready (rs:=[11]) (by kernel_rfl) (by simp) ?_
  refine AllReadyH.cons (r6 rfl) (fun K hK => ?_) AllReadyH.nil
  go_simp
  obtain ⟨W3,hW3⟩ : ∃ W,W=mM W2 WA.heap.size nd pad pnd pcd rd:=⟨_,rfl⟩
  have HB3:=hid (show Below W1.heap.size W1 W3 from hW3 ▸ F9 HB2 hW1s _ _ _ _ _)
  unfold mM at hW3
  rw [← hW3]
  clear hW3
  obtain ⟨⟨q0,q1,q2,q3,q4⟩,-⟩:=(HS.out _ HB3).1.cells
  obtain ⟨g0,g1,g2,hFl2⟩:=(HS.out _ HB3).2.1.cells
  refine hK.out _ _ ⟨HB3,g1,q1,HLD.out _ HB3⟩ (fun hHeld => ?_)
  clear hK K
  try simp only [Act.put,j6,v6,v7]
  refine a8 12 ?_
  refine wpAnyH_done (by kernel_rfl) ?_ _
  go_wp2_with fail
  go_meet
  case rel => exact ⟨rfl,HB3⟩
 case rest =>
 obtain ⟨rfl,HBB⟩:=hcut
 clear HLD HBA
 generalize wc=WB at HBB ⊢
 have N2:=hid (HS.out _ HBB).1
 obtain ⟨⟨n0,n1,n2,n3,n4⟩,-⟩:=N2.out.cells
 have hb0:=N2.out.lt
 have HOB:=hid (show Below w.heap.size w WB from B1.out.trans (HBB.out.mono B1.out.size))
 have HX:=hid (show Y1 sheets defs t=if ((j4 l6 t.text.data.toList).isSome || (j4 defs t.text.data.toList).isSome)=true then .error (111,t.place) else match F7 t.kids.dropLast [] with
  | .error e => .error e
  | .ok ps => match g9 ⟨sheets,defs,ps⟩ (D6 t) (l5 ps.length) with
    | .error e => .error e
    | .ok (r,S) => .ok ⟨t.text.data.toList,(r7 ((l5 ps.length ++ [r]).map (j3 S)) []).dropLast,(r7 ((l5 ps.length ++ [r]).map (j3 S)) []).getLastD 0⟩ from rfl)
 generalize (j4 l6 t.text.data.toList).isSome=p at HX ⊢
 generalize (j4 defs t.text.data.toList).isSome=q at HX ⊢
 cases hpq : (p || q) with
 | true =>
   have HX2:=hid (show Y1 sheets defs t=.error (111,t.place) from HX.out.trans (if_pos hpq))
   have hcs : p=true∨(p=false∧q=true):=by
    cases p
    ·exact .inr ⟨rfl,by simpa using hpq⟩
    ·exact .inl rfl
   clear HX hpq
   rcases hcs with rfl | ⟨rfl,rfl⟩
   all_goals
    go_wp2_with fail
    (with_reducible refine Calls.mono (I9 111 t.place WB) ?_)
    rintro e w8 ⟨rfl,rfl⟩
    exact And.intro rfl (pS HX2 (Off.of HOB (Nat.le_refl _)))
 | false =>
 obtain ⟨rfl,rfl⟩ : p=false∧q=false:=by simpa using hpq
 have HX2:=hid (HX.out.trans (if_neg (by rw [hpq]; decide)))
 clear HX hpq
 obtain ⟨x3,x4,x5,hFB⟩:=(HS.out _ HBB).2.1
 have hmm:=@run_makeMap Tryz.prog
 have hFlB : F<WB.heap.size:=(Array.getElem?_eq_some_iff.1 hFB).1
 have c3 : WB.cell? ⟨F,3,none⟩=some x3:=by simp [World.cell?,hFB]
 have c4 : WB.cell? ⟨F,4,none⟩=some x4:=by simp [World.cell?,hFB]
 have c5 : WB.cell? ⟨F,5,none⟩=some x5:=by simp [World.cell?,hFB]
 have z3 : WB.frozen? ⟨F,3,none⟩=false:=by simp [World.frozen?,hFB]
 have z4 : WB.frozen? ⟨F,4,none⟩=false:=by simp [World.frozen?,hFB]
 have z5 : WB.frozen? ⟨F,5,none⟩=false:=by simp [World.frozen?,hFB]
 obtain ⟨W4,hW4⟩ : ∃ W,W=((WB.setCell ⟨F,3,none⟩ (.map (some WB.heap.size))).setCell ⟨F,4,none⟩ (.slice none 0 0)).setCell ⟨F,5,none⟩ (.slice none 0 0):=⟨_,rfl⟩
 have hZ4 : W4.heap.size=WB.heap.size:=by rw [hW4]; simp [World.setCell]
 obtain ⟨W5,hW5⟩ : ∃ W,W=W4.alloc (.map #[] 0):=⟨_,rfl⟩
 have hF4 : W4.heap[F]?=some (.cells #[m0,m1,m2,.map (some WB.heap.size),.slice none 0 0,.slice none 0 0] 63 (0,0)):=by rw [hW4]; exact j9 (j9 (j9 hFB 3 _) 4 _) 5 _
 have HF5:=hid (show W5.heap[F]?=some (.cells #[m0,m1,m2,.map (some WB.heap.size),.slice none 0 0,.slice none 0 0] 63 (0,0)) from by rw [hW5]; exact dJ (by omega) hF4)
 have HO5:=hid (show ∀ d,d<WB.heap.size→d≠F→W5.heap[d]?=WB.heap[d]? from fun d h0 hd => by
  rw [hW5,hW4]
  refine dJ (by simpa [World.setCell] using h0) ?_
  exact (Below.heap_setCell _ _ _ _ hd).trans ((Below.heap_setCell _ _ _ _ hd).trans (Below.heap_setCell _ _ _ _ hd)))
 have HZ5:=hid (show W5.heap.size=WB.heap.size + 1 by rw [hW5,yY,hZ4])
 have HT5:=hid (show W5.os=WB.os∧W5.tape=WB.tape∧W5.output=WB.output by rw [hW5,hW4]; exact ⟨rfl,rfl,rfl⟩)
 have HM5:=hid (show q7 9 WB.heap.size 0 (fun _ => none) W5 from by rw [hW5,← hZ4]; exact q7.made _ _)
 rw [hW4] at hW5
 clear hF4 hFB hW4 hZ4
 go_upto_region 6 with fail
 rw [← hW5]
 clear hW5 c3 c4 c5 z3 z4 z5 hmm
 have HOW:=hid (show Off w.heap.size F w W5 from by
  have h9:=HOB.out.size
  exact ⟨HT5.out.1.trans HOB.out.os,HT5.out.2.1.trans HOB.out.tape,HT5.out.2.2.trans HOB.out.output,by rw [HZ5.out]; omega,fun b hb => (HO5.out b (by have:=hb.1; omega) hb.2).trans (HOB.out.block b hb.1)⟩)
 have HP0:=hid (ParI.start HF5 hFlB (by rw [HZ5.out]; exact Nat.le_refl _) HM5)
 have N5:=hid (show c6 w.heap.size t a cap W5 from (HO5.out _ hb0 (by have:=HN0.out.2; omega)).trans N2)
 have K5:=hid (show y5 (w.heap.size + 1) ⟨#[]⟩ none 0 0 0 W5 from (HO5.out _ (by have:=HBB.out.size; have:=Z1.out; omega) (by have:=HN0.out.2; omega)).trans (HS.out _ HBB).2.2)
 have HBS:=hid (show w.heap.size + 2≤WB.heap.size by have:=HBB.out.size; have:=Z1.out; omega)
 have HFB:=hid hFlB
 generalize WB.heap.size=bp at HF5 HO5 HZ5 HM5 HP0 HBS HFB ⊢
 clear HF5 HO5 HM5 HT5 N2 n0 n1 n2 n3 n4 hb0 hFlB HOB HBB HS B1 Z1 N1 K1 WB
 obtain ⟨L,hL⟩ : ∃ L,t.kids.length=L + 1:=by
  have:=HL.out
  rw [aR] at this
  simp only [Bool.and_eq_true,decide_eq_true_eq] at this
  exact ⟨t.kids.length - 1,by omega⟩
 have HKL:=hid hL
 have hL8 : L≤8:=by
  have:=HL.out
  rw [aR] at this
  simp only [Bool.and_eq_true,decide_eq_true_eq] at this
  omega
 obtain ⟨kb,ko,rfl⟩ : ∃ kb ko,a=some ⟨kb,ko,none⟩:=by
  obtain ⟨kb,ko,ka0,kc0,A0⟩:=HH.out.kid 0 (by omega)
  exact ⟨kb,ko,A0.addr⟩
 have hcap:=HH.out.bounds.2.2.2.2
 rw [hL] at hcap
 have e1 : IntKind.i64.wrap ((L : Nat) : Int)=(L : Int):=IntWalk.i64_in _ (by omega)
 have hle : (0 : Int)≤(L : Nat)∧((L : Nat) : Int)≤(cap : Nat):=by omega
 have hL2 : L + 1≤9223372036854775807:=by omega
 have HCAP:=hid hcap
 obtain ⟨⟨n0,n1,n2,n3,n4⟩,-⟩:=N5.out.cells
 have hb5:=N5.out.lt
 rw [hL] at n3 ⊢
 clear hL hcap
 have HPX:=hid (show F7 (t.kids.dropLast.drop 0) []=F7 t.kids.dropLast [] from rfl)
 go_wp2_with fail
 clear n0 n1 n2 n3 n4
 go_loopw [10,65] (fun v i wr => ∃ (k : Nat),i=.int .i64 k∧k≤L∧Hid (∃ ps c kn ro rk f n,ParI F bp m0 m1 m2 W5 k k v ps c kn ro rk f n wr∧F7 (t.kids.dropLast.drop k) ps=F7 t.kids.dropLast [])) (fun _ i _ => L - (intOf i).toNat)
 case atStart => exact ⟨0,rfl,Nat.zero_le _,_,_,_,_,_,_,_,HP0,HPX⟩
 case round =>
  obtain ⟨k,rfl,hk,HQ⟩:=hrel
  clear HP0
  obtain ⟨ps,c,kn,ro,rk,f,n,hP,hpx⟩:=HQ.out
  have HP:=hid hP
  have HPX2:=hid hpx
  clear hP hpx HQ HPX
  by_cases hlt : k<L
  ·have HO1:=hid (show Off w.heap.size F w wr from HOW.out.trans (HP.out.off.sub (by have:=HBS.out; omega)))
   obtain ⟨b',o',ka,kc,A⟩:=(HH.out.below (HO1.out.low (by have:=HN0.out; omega) HN0.out.1)).kid k (by have:=HKL.out; omega)
   obtain ⟨ea,hkb,c0,c1,c2,c3,c4,hkh⟩:=A
   cases ea
   have hdl : k<t.kids.dropLast.length:=by rw [List.length_dropLast,HKL.out]; exact hlt
   have hde : t.kids.dropLast[k]=t.kids[k]'(by have:=HKL.out; omega):=List.getElem_dropLast ..
   have hps:=wZ hdl ps
   rw [hde] at hps
   have HPS:=hid (HPX2.out.symm.trans hps)
   have hus:=hkh.bounds.2.1
   generalize t.kids[k]'(by have:=HKL.out; omega)=u at c0 c1 c2 c3 c4 hkh HPS hus
   clear hps hde hdl hkh
   obtain ⟨W10,hW10⟩ : ∃ W,W=wr.alloc (.cells #[.int .i64 u.kind,.string u.text,.int .i64 u.n,.slice ka u.kids.length kc,.int .i64 u.place] 24):=⟨_,rfl⟩
   have B10:=hid (show Below wr.heap.size wr W10.drew from hW10 ▸ r8 (a7 _ _))
   have PB:=hid (show c6 wr.heap.size u ka kc W10.drew from hW10 ▸ c6.make wr u ka kc)
   have HP10:=hid (HP.out.below B10)
   have HPA:=hid (show s7 F c W10.drew wr.heap.size from HP.out.cls.apart_new (Nat.le_refl _) PB.out.lt)
   have hbt:=bR u.text
   have husl : u.text.data.toList.length≤maxLen:=by rw [d7]; exact hus
   have hlk:=(HP10.out.map.look dE Tryz.underlying58 (iP W10.drew) (bC (s:=u.text.data.toList) husl)).1
   rw [HP10.out.names,hbt] at hlk
   have hmap:=HP10.out.cls.hin.maps.2.2.2.1
   rw [HP10.out.ms.2.2.2] at hmap
   have hFl:=HP10.out.cls.hin.maps.2.2.2.2
   obtain ⟨⟨n0,n1,n2,n3,n4⟩,-⟩:=PB.out.cells
   have hpl:=PB.out.lt
   have HSZ:=hid (show wr.heap.size<W10.drew.heap.size from hpl)
   have HUSL:=hid husl
   have HBT:=hid hbt
   clear hbt husl hus
   have hcs : ps.contains u.text.data.toList=true∨ps.contains u.text.data.toList=false:=by cases ps.contains u.text.data.toList <;> simp
   rcases hcs with hcon | hcon
   ·obtain ⟨i,hi⟩ : ∃ i,(ps.findIdx? fun p => p == u.text.data.toList)=some i:=by
     have:=lP (ps:=ps) (s:=u.text.data.toList)
     rw [hcon] at this
     exact Option.isSome_iff_exists.1 this
    rw [hi] at hlk
    have HX3:=hid (show Y1 sheets defs t=.error (111,u.place) by
     rw [HX2.out,HPS.out,if_pos hcon])
    have HO10:=hid (HO1.out.trans (Off.of B10 (by have:=HO1.out.size; omega)))
    clear hi hcon HPS HX2
    go_upto_region 11 with fail
    rw [← hW10]
    clear hW10 c0 c1 c2 c3 c4
    refine wp_region_held_drew (S:=fun cur => cur.cell? ⟨F,3,none⟩=some (.map (some bp))∧cur.cell? ⟨wr.heap.size,1,none⟩=some (.string u.text)∧(Instr.lookup 58 (.map (some bp)) (.string u.text) true).run Tryz.prog cur=.ok (.tuple #[.int .i64 (i : Nat),.bool true]) cur) (by kernel_rfl) ?_ (fun hHeld => ?_)
    ·exact ⟨hmap,n1,hlk⟩
    refine a8 0 ?_; refine a8 1 ?_; refine a8 2 ?_; refine a8 3 ?_; refine a8 4 ?_; refine a8 5 ?_; refine a8 6 ?_; refine a8 7 ?_; refine a8 8 ?_; refine a8 9 ?_; refine a8 10 ?_; refine a8 11 ?_
    refine wpAnyH_done (by kernel_rfl) ?_ _
    go_wp2_with fail
    (with_reducible refine Calls.mono (I9 111 u.place W10.drew) ?_)
    rintro e w8 ⟨rfl,rfl⟩
    exact And.intro rfl (pS HX3 HO10)
   ·have hi : (ps.findIdx? fun p => p == u.text.data.toList)=none:=by
     have:=lP (ps:=ps) (s:=u.text.data.toList)
     rw [hcon] at this
     exact Option.not_isSome_iff_eq_none.1 (by rw [this]; decide)
    rw [hi] at hlk
    have HCON:=hid hcon
    have HPS2:=hid (show F7 (t.kids.dropLast.drop (k + 1)) (ps ++ [u.text.data.toList])=F7 t.kids.dropLast [] by rw [HPS.out,if_neg (by rw [hcon]; decide)])
    clear hi hcon HPS
    go_upto_region 11 with fail
    rw [← hW10]
    clear hW10 c0 c1 c2 c3 c4
    refine wp_region_held_drew (S:=fun cur => cur.cell? ⟨F,3,none⟩=some (.map (some bp))∧cur.cell? ⟨wr.heap.size,1,none⟩=some (.string u.text)∧(Instr.lookup 58 (.map (some bp)) (.string u.text) true).run Tryz.prog cur=.ok (.tuple #[.int .i64 0,.bool false]) cur) (by kernel_rfl) ?_ (fun hHeld => ?_)
    ·exact ⟨hmap,n1,hlk⟩
    refine a8 0 ?_; refine a8 1 ?_; refine a8 2 ?_; refine a8 3 ?_; refine a8 4 ?_; refine a8 5 ?_; refine a8 6 ?_; refine a8 7 ?_; refine a8 8 ?_; refine a8 9 ?_; refine a8 10 ?_; refine a8 11 ?_
    refine wpAnyH_done (by kernel_rfl) ?_ _
    have BD:=hid (show Below W10.drew.heap.size W10.drew W10.drew.drew from r8 (Below.refl _ _))
    have HP11:=hid (HP10.out.below BD)
    have C:=hid (yX HP11.out.cls (by rw [HP11.out.len]; omega))
    have HPA11:=hid (HPA.out.grown BD.out.size)
    have PB11:=hid (show c6 wr.heap.size u ka kc W10.drew.drew from PB)
    have hm11 : W10.drew.drew.cell? ⟨F,3,none⟩=some (.map (some bp)):=hmap
    have hn11 : W10.drew.drew.cell? ⟨wr.heap.size,1,none⟩=some (.string u.text):=n1
    go_upto_region 14 with fail
    clear hHeld hlk hmap n0 n1 n2 n3 n4 HP10 PB HPA
    refine wp_region_held_drew (S:=fun cur => cur.cell? ⟨F,3,none⟩=some (.map (some bp))∧cur.cell? ⟨wr.heap.size,1,none⟩=some (.string u.text)) (by kernel_rfl) ?_ (fun hHeld => ?_)
    ·exact ⟨hm11,hn11⟩
    refine a8 0 ?_; refine a8 1 ?_; refine a8 2 ?_; refine a8 3 ?_; refine a8 4 ?_; refine a8 5 ?_; refine a8 6 ?_; refine a8 7 ?_; refine a8 8 ?_
    refine wpAnyH_ready (rs:=[9]) (by kernel_rfl) (by simp) ?_
    refine AllReadyH.cons (r6 rfl) (fun K hK => ?_) AllReadyH.nil
    go_simp
    (with_reducible refine Calls.mono C.out ?_)
    rintro e w2 ⟨c2,kn2,ro2,rk2,rfl,hl2,hcl,hm,hn⟩
    rw [HP11.out.len]
    have PB2:=hid (show c6 wr.heap.size u ka kc w2 from (HPA11.out.mv hm hn).2.trans PB11)
    have HPA2:=hid (HPA11.out.mv hm hn).1
    have hm2:=hcl.hin.maps.2.2.2.1
    rw [hm.maps.2.2.2.trans HP11.out.ms.2.2.2] at hm2
    have hn2 : w2.cell? ⟨wr.heap.size,1,none⟩=some (.string u.text):=PB2.out.cells.1.2.1
    have HMap2:=hid (HP11.out.map.kept (w':=w2) ((HP11.out.cls.apart_low (Nat.lt_succ_self _) (by have:=HFB.out; omega)).mv hm hn).2)
    have HF2:=hid (show F<w2.heap.size∧bp<w2.heap.size∧wr.heap.size<w2.heap.size from ⟨hcl.hin.maps.2.2.2.2,HMap2.out.lt,PB2.out.lt⟩)
    have HCL2:=hid hcl
    have HM2:=hid hm
    have HN2:=hid hn
    have HL2:=hid hl2
    have hbpF : F≠bp∧wr.heap.size≠bp:=by have h1:=HFB.out; have h2:=HP.out.map.lt; omega
    have HBPF:=hid hbpF
    refine hK.out _ _ ⟨hm2,hn2⟩ (fun hHeld => ?_)
    clear hK K C hl2 hcl hm hn hm11 hn11
    try simp only [Act.put,j6,v6,v7]
    refine wpAnyH_ready (rs:=[10]) (by kernel_rfl) (by simp) ?_
    refine AllReadyH.cons (r6 rfl) (fun K hK => ?_) AllReadyH.nil
    rw [if_pos (by rfl)]
    refine dF HMap2 _ _ _ 58 rfl 3 dE Tryz.underlying58 rfl (by have:=HP.out.nk; unfold maxLen; omega) (.string u.text) (.int .i64 (k : Nat)) (.string u.text.data.toList) rfl rfl (by have:=bC HUSL.out; rwa [HBT.out] at this) ?_
    intro w3 hf hgr
    obtain ⟨f',e1,e2⟩ : ∃ f' : Lit→Option Value,f' (.string u.text.data.toList)=some (.int .i64 (k : Nat))∧∀ x,x≠.string u.text.data.toList→f' x=f x:=by
     classical exact ⟨fun x => if x=.string u.text.data.toList then some (.int .i64 (k : Nat)) else f x,if_pos rfl,fun x hx => if_neg hx⟩
    have HP3:=hid (HP11.out.put HFB HL2 HCL2 HM2 HN2 hgr (hf f' e1 e2) HCON e1 e2)
    have h3 : ∀ d,d<w2.heap.size→d≠bp→w3.heap[d]?=w2.heap[d]?:=fun d hd hne => hgr.block d hd (fun e => hne (Option.some.inj e))
    have PB3:=hid (show c6 wr.heap.size u ka kc w3 from (h3 _ HF2.out.2.2 HBPF.out.2).trans PB2)
    have hm3:=HP3.out.cls.hin.maps.2.2.2.1
    rw [HP3.out.ms.2.2.2] at hm3
    have hn3 : w3.cell? ⟨wr.heap.size,1,none⟩=some (.string u.text):=PB3.out.cells.1.2.1
    have HPA3:=hid (HPA2.out.grown hgr.size)
    have HE1:=hid e1
    refine hK.out _ _ ⟨hm3,hn3⟩ (fun hHeld => ?_)
    clear hK K hf hgr h3 e1 e2 hm2 hn2 HMap2 hbpF
    try simp only [Act.put]
    refine wpAnyH_done (by kernel_rfl) ?_ _
    have BD3:=hid (show Below w3.heap.size w3 w3.drew from r8 (Below.refl _ _))
    have HP4:=hid (HP3.out.below BD3)
    have HLK:=hid (show ∀ cur : World,cur.heap[bp]?=w3.heap[bp]?→(Instr.lookup 58 (.map (some bp)) (.string u.text) false).run Tryz.prog cur=.ok (.int .i64 (k : Nat)) cur from fun cur hc => by
     have:=((HP3.out.map.kept hc).look dE Tryz.underlying58 (iP cur) (bC (s:=u.text.data.toList) HUSL)).2
     rw [HE1.out,HBT.out] at this
     exact this)
    have HSS:=hid (show ∀ cur : World,(∀ b,b<bp + 1∨b=wr.heap.size→cur.heap[b]?=w3.heap[b]?)→cur.cell? ⟨F,3,none⟩=some (.map (some bp))∧cur.cell? ⟨wr.heap.size,1,none⟩=some (.string u.text)∧(Instr.lookup 58 (.map (some bp)) (.string u.text) false).run Tryz.prog cur=.ok (.int .i64 (k : Nat)) cur from fun cur hc =>
     ⟨(World.cell?_of_block (hc F (.inl (by have:=HFB.out; omega)))).trans hm3,(World.cell?_of_block (hc _ (.inr rfl))).trans hn3,HLK.out cur (hc bp (.inl (Nat.lt_succ_self _)))⟩)
    have hF3:=HP3.out.cls.hin.maps.2.2.2.2
    have hp3:=PB3.out.lt
    go_upto_region 15 with fail
    clear hHeld hm3 hn3
    refine wp_region_held_drew (S:=fun cur => cur.cell? ⟨F,3,none⟩=some (.map (some bp))∧cur.cell? ⟨wr.heap.size,1,none⟩=some (.string u.text)∧(Instr.lookup 58 (.map (some bp)) (.string u.text) false).run Tryz.prog cur=.ok (.int .i64 (k : Nat)) cur) (by kernel_rfl) ?_ (fun hHeld => ?_)
    ·exact HSS.out _ (fun _ _ => rfl)
    refine a8 0 ?_; refine a8 1 ?_; refine a8 2 ?_; refine a8 3 ?_; refine a8 4 ?_; refine a8 5 ?_; refine a8 6 ?_; refine a8 7 ?_
    refine wpAnyH_ready (rs:=[8]) (by kernel_rfl) (by simp) ?_
    refine AllReadyH.cons (r6 rfl) (fun K hK => ?_) AllReadyH.nil
    go_simp
    obtain ⟨W6,hW6⟩ : ∃ W,W=(w3.alloc (.cells #[.int .i64 (k : Nat)] 3)).drew:=⟨_,rfl⟩
    have B6:=hid (show Below w3.heap.size w3 W6 from hW6 ▸ r8 (a7 _ _))
    have NEW:=hid (show (∀ (j : Nat) u',[Value.int .i64 (k : Nat)][j]?=some u'→W6.cell? ((⟨w3.heap.size,0,none⟩ : Addr).add j)=some u')∧w3.heap.size<W6.heap.size from hW6 ▸ ⟨fun j u' hu => V2 (w:=w3) j u' hu,by show w3.heap.size<(w3.alloc _).heap.size; simp⟩)
    rw [← hW6]
    clear hW6
    have HP6:=hid (HP3.out.below B6)
    have HB6:=hid (show ∀ b,b<bp + 1∨b=wr.heap.size→W6.heap[b]?=w3.heap[b]? from fun b hb => B6.out.block b (by have h1:=HP3.out.cls.hin.le; have h2:=HPA3.out.1.1; omega))
    refine hK.out _ _ (HSS.out _ HB6) (fun hHeld => ?_)
    clear hK K
    try simp only [Act.put,j6,v6,v7]
    obtain ⟨i1,hi,hq0,hq1,hq2⟩:=info_parts (show (Tryz.prog.info? 3).map (fun i => (i.zero,i.size,i.bytes))=some (some (.int .i64 0),1,8) by kernel_rfl)
    refine wpAnyH_ready (rs:=[9]) (by kernel_rfl) (by simp) ?_
    refine AllReadyH.cons (r6 rfl) (fun K hK => ?_) AllReadyH.nil
    refine step_append_lies _ rfl _ _ 34 rfl (bp + 1) 3 i1 (.int .i64 0) 1 8 Tryz.underlying34 hi hq0 hq1 hq2 rfl (by decide) u10 k (dU k) rfl HP6.out.row ⟨w3.heap.size,0,none⟩ 1 1 [.int .i64 (k : Nat)] rfl rfl NEW.out.1 aO (by decide) (by unfold maxLen; omega) (by omega) HP6.out.cls.hin.le _ rfl ?_
    intro g cap' w7 hown hgrow hat hlt'
    have HP7:=hid (HP6.out.app hgrow hat hlt' hown)
    have HB7:=hid (show ∀ b,b<bp + 1∨b=wr.heap.size→w7.heap[b]?=w3.heap[b]? from fun b hb => (hgrow.block b (by have h1:=HP6.out.cls.hin.le; have h2:=HPA3.out.1.1; have h3:=B6.out.size; omega) (fun e => by
     have h1:=(HP.out.row.lt b e.symm)
     omega)).trans (HB6.out b hb))
    refine hK.out _ _ (HSS.out _ HB7) (fun hHeld => ?_)
    clear hK K hown hgrow hat hlt' hi hq0 hq1 hq2
    try simp only [Act.put,j6,v6,v7]
    refine a8 10 ?_
    refine wpAnyH_done (by kernel_rfl) ?_ _
    go_wp2_with fail
    go_roundw
    case rel => exact ⟨k + 1,by go_num,by omega,_,_,_,_,_,_,_,HP7,HPS2⟩
    case measure => simp [intOf]; omega
  ·-- C
   obtain rfl : k=L:=by omega
   have HO1:=hid (show Off w.heap.size F w wr from HOW.out.trans (HP.out.off.sub (by have:=HBS.out; omega)))
   have hpe:=HPX2.out
   rw [a0O (by rw [List.length_dropLast,HKL.out]; exact hlt)] at hpe
   have hx3:=HX2.out
   rw [← hpe] at hx3
   have HX3:=hid (show Y1 sheets defs t=match g9 ⟨sheets,defs,ps⟩ (D6 t) (l5 k) with
    | .error e => .error e
    | .ok (r,S) => .ok ⟨t.text.data.toList,(r7 ((l5 k ++ [r]).map (j3 S)) []).dropLast,(r7 ((l5 k ++ [r]).map (j3 S)) []).getLastD 0⟩ from by rw [← HP.out.pl]; exact hx3)
   have HHw:=hid (HH.out.below (HO1.out.low (by have:=HN0.out; omega) HN0.out.1))
   obtain ⟨b',o',ka,kc,A⟩:=HHw.out.kid k (by have:=HKL.out; omega)
   obtain ⟨ea,hkb,c0,c1,c2,c3,c4,hkh⟩:=A
   cases ea
   have hlast : t.kids[k]'(by have:=HKL.out; omega)=D6 t:=(a3W HKL _).symm
   rw [hlast] at c0 c1 c2 c3 c4 hkh
   have hright : d9 (D6 t) 1=true:=by
    have:=HL.out
    rw [aR] at this
    simp only [Bool.and_eq_true] at this
    exact this.2.2
   have hmem : D6 t∈t.kids:=hlast ▸ List.getElem_mem _
   have hnod : i7 (D6 t)≤8192:=by
    have h1:=eP t.kids _ hmem
    have h2:=t8 t
    have:=HND.out
    omega
   have henv : PEnv ⟨sheets,defs,ps⟩ (bp + 1) F c wr:=by
    have hav : ∀ b,Av w.heap.size F b→Av (bp + 1) F b:=fun b hb => ⟨by have:=hb.1; have:=HBS.out; omega,hb.2⟩
    obtain ⟨m,hm⟩:=HE.out.env.2
    exact ⟨HP.out.ms.1 ▸ HE.out.sheets.move HO1.out.block hav,HP.out.ms.2.1 ▸ HE.out.defs.move HO1.out.block hav,HP.out.ms.2.2.1 ▸ HE.out.built.move HO1.out.block hav,⟨bp,n,f,HP.out.ms.2.2.2,⟨Nat.lt_succ_self _,by have:=HFB.out; omega⟩,HP.out.map,HP.out.names⟩,hav _ HE.out.env.1,m,(World.cell?_of_block (HO1.out.block _ HE.out.env.1)).trans hm⟩
   have C:=hid (a08 (B:=bp + 1) (F:=F) (n₀:=n₀) (E:=⟨sheets,defs,ps⟩) (by have:=HN0.out; have:=HBS.out; omega) HN0.out.1 (HM.out ps) _ (D6 t) (Nat.lt_succ_self _) 1 hright ka kc c kn ro rk (l5 k) (l5 k) wr hkh HP.out.cls henv (fun i hi => a4d (by have h9 : i<ps.length:=hi; have:=HP.out.pl; omega)) (by rw [HP.out.len]; omega))
   have HNOD:=hid hnod
   have hbo:=(HOW.out.trans (HP.out.off.sub (by have:=HBS.out; omega)))
   have N8:=hid (show c6 w.heap.size t (some ⟨kb,ko,none⟩) cap wr from (HP.out.off.block _ ⟨by have:=HBS.out; omega,by have:=HN0.out; omega⟩).trans N5)
   have K8:=hid (show y5 (w.heap.size + 1) ⟨#[]⟩ none 0 0 0 wr from (HP.out.off.block _ ⟨by have:=HBS.out; omega,by have:=HN0.out; omega⟩).trans K5)
   obtain ⟨⟨n0,n1,n2,n3,n4⟩,-⟩:=N8.out.cells
   rw [HKL.out] at n3
   have hb8:=N8.out.lt
   have hkbl : kb<wr.heap.size:=by have:=HN0.out; have:=HO1.out.size; omega
   have hkcap : k + 1≤cap:=HCAP.out.1
   generalize g9 ⟨sheets,defs,ps⟩ (D6 t) (l5 k)=X at C HX3
   clear hpe hx3 hlast hright hmem hnod henv hkh HX2 HPX2 HHw hkb
   generalize D6 t=u at c0 c1 c2 c3 c4 C HNOD
   go_wp2_with fail
   (with_reducible refine Calls.mono C.out ?_)
   intro e w2 hr
   cases X with
   | error q =>
     obtain ⟨k0,p0⟩:=q
     obtain ⟨rfl,ho⟩:=hr
     exact And.intro rfl (pS HX3 (HO1.out.trans (ho.sub (by have:=HBS.out; omega))))
   | ok q =>
     obtain ⟨r,S2⟩:=q
     obtain ⟨c2,kn2,ro2,rk2,l2,y,rfl,hy,hcl,hm,hn,hs⟩:=hr
     have HCL:=hid hcl
     have HUB:=hid (show (l5 k ++ l2).length≤900000 by have h1:=hcl.sim.len.2; have h2:=HP.out.len; have h3:=HNOD.out; omega)
     have HO2:=hid (HO1.out.trans ((hm.off HP.out.cls.hin).sub (B':=w.heap.size) (by have:=HBS.out; omega)))
     have HB2:=hid (show ∀ d,d<bp→d≠F→w2.heap[d]?=wr.heap[d]? from fun d h1 h2 => (hm.off HP.out.cls.hin).block d ⟨by omega,h2⟩)
     have HR2:=hid (Y0 HP.out.row fun g e => ((HP.out.vA g e).mv hm hn).2)
     have HV2:=hid (show ∀ g,u10.ownBlock=some g→s7 F c2 w2 g from fun g e => ((HP.out.vA g e).mv hm hn).1)
     have HMS:=hid (show c2.m0=m0∧c2.m1=m1∧c2.m2=m2 from ⟨hm.maps.1.trans HP.out.ms.1,hm.maps.2.1.trans HP.out.ms.2.1,hm.maps.2.2.1.trans HP.out.ms.2.2.1⟩)
     have HX4:=hid (show Y1 sheets defs t=.ok ⟨t.text.data.toList,(r7 ((l5 k ++ [r]).map (j3 S2)) []).dropLast,(r7 ((l5 k ++ [r]).map (j3 S2)) []).getLastD 0⟩ from HX3)
     have HEl:=hid (fun j h1 h2 => a0c (S:=S2) hy j h1 h2)
     have hsz2:=hid hm.size
     clear hcl hm hn hs hy C HX3
     obtain ⟨i1,hi,hq0,hq1,hq2⟩:=info_parts (show (Tryz.prog.info? 3).map (fun i => (i.zero,i.size,i.bytes))=some (some (.int .i64 0),1,8) by kernel_rfl)
     have HI1:=hid (show _∧_∧_∧_ from ⟨hi,hq0,hq1,hq2⟩)
     obtain ⟨W3,hW3⟩ : ∃ W,W=w2.alloc (.cells #[.int .i64 (y : Nat)] 3):=⟨_,rfl⟩
     have B3:=hid (show Below w2.heap.size w2 W3 from hW3 ▸ a7 _ _)
     have N3:=hid (show ∀ (j : Nat) u',[Value.int .i64 (y : Nat)][j]?=some u'→W3.cell? ((⟨w2.heap.size,0,none⟩ : Addr).add j)=some u' from hW3 ▸ V2)
     have HW3:=hid hW3
     clear hW3 hi hq0 hq1 hq2 c0 c1 c3 c4
     go_wp2_with (at_builtin; rw [← HW3.out]; refine wpList_append_lies _ rfl _ _ 34 rfl (bp + 1) 3 i1 (.int .i64 0) 1 8 Tryz.underlying34 HI1.out.1 HI1.out.2.1 HI1.out.2.2.1 HI1.out.2.2.2 rfl (by decide) u10 k _ rfl (n8 HR2 B3) ⟨w2.heap.size,0,none⟩ 1 1 [.int .i64 (y : Nat)] rfl rfl N3 aO (by decide) (by unfold maxLen; omega) (by omega) (by have:=HCL.out.hin.le; have:=B3.out.size; omega) _ rfl ?_)
     intro g cap' w6 hown hgrow hat hlt'
     have HC6:=hid ((HCL.out.below B3).other hgrow (fun d e => (HV2.out d e).grown B3.out.size))
     have HG6:=hid (show s7 F c2 w6 g from by
      have h1:=B3.out.size
      have h2:=hgrow.size
      rcases hat with e2 | e2
      ·exact (HV2.out _ e2).grown (by omega)
      ·exact HCL.out.apart_new (by omega) hlt')
     have hbl : ∀ d,d<w2.heap.size→u10.ownBlock≠some d→w6.heap[d]?=w2.heap[d]?:=fun d hd hne => (hgrow.block d (by have:=B3.out.size; omega) (fun e => hne e.symm)).trans (B3.out.block d hd)
     have hvl : ∀ d,d<bp→u10.ownBlock≠some d:=fun d hd e => by have:=(HR2.out.lt d e).1; omega
     have HO6:=hid (show Off w.heap.size F w w6 from HO2.out.trans ⟨hgrow.os.trans B3.out.os,hgrow.tape.trans B3.out.tape,hgrow.output.trans B3.out.output,by have:=hgrow.size; have:=B3.out.size; omega,fun b hb => hbl b (by have:=hb.1; have:=HO2.out.size; omega) (hvl b (by have:=hb.1; have:=HBS.out; omega))⟩)
     have HBX:=hid (show ∀ d,d<bp→d≠F→d<wr.heap.size→w6.heap[d]?=wr.heap[d]? from fun d h1 h2 h3 => (hbl d (by have:=hsz2.out; omega) (hvl d h1)).trans (HB2.out d h1 h2))
     have HRow6:=hid (show w6.ownsRow (bp + 1) 3 1 (.slice (some ⟨g,0,none⟩) (Q6 k y).length cap') (Q6 k y).length ((Q6 k y).map fun (n : Int) => .int .i64 n) by rw [uQ,fG]; exact hown)
     have HS26:=hid (show w2.heap.size≤w6.heap.size by have:=B3.out.size; have:=hgrow.size; omega)
     clear hown hgrow hat hlt' hbl hvl HV2 HR2 B3 N3 HW3
     have hmm:=@run_makeMap Tryz.prog
     obtain ⟨W7,hW7⟩ : ∃ W,W=w6.alloc (.map #[] 0):=⟨_,rfl⟩
     have HN0':=hid (NumI.start (Rs:=(l5 k ++ [r]).map (j3 S2)) hW7 HC6 HMS HRow6 HG6)
     have B7:=hid (show Below w6.heap.size w6 W7 from hW7 ▸ a7 _ _)
     have HO7:=hid (show Off w.heap.size F w W7 from HO6.out.trans (Off.of B7 (by have:=HO6.out.size; omega)))
     have hs26 : w2.heap.size≤w6.heap.size∧wr.heap.size≤w6.heap.size:=by have h1:=hsz2.out; have h2:=HS26.out; omega
     have N9:=hid (show c6 w.heap.size t (some ⟨kb,ko,none⟩) cap W7 from (B7.out.block _ (by omega)).trans ((HBX.out _ (by have:=HBS.out; omega) (by have:=HN0.out; omega) hb8).trans N8))
     have K9:=hid (show y5 (w.heap.size + 1) ⟨#[]⟩ none 0 0 0 W7 from (B7.out.block _ (by have:=K8.out.cells.2.2; omega)).trans ((HBX.out _ (by have:=HBS.out; omega) (by have:=HN0.out; omega) K8.out.cells.2.2).trans K8))
     clear hs26 HBX HO6 HC6 HG6 HRow6 HO2 HB2 HCL HMS hsz2 HS26 B7 HP N8 K8 n0 n1 n2 n3 n4
     have HLR:=hid (show ((l5 k ++ [r]).map (j3 S2)).length=k + 1 by rw [List.length_map,List.length_append,Y8]; rfl)
     have HLL:=hid (fG k y)
     go_upto_region 19 with fail
     rw [← hW7]
     obtain ⟨bn,hbn⟩ : ∃ b,b=w6.heap.size:=⟨_,rfl⟩
     rw [← hbn] at HN0' ⊢
     clear hW7 hmm hbn
     generalize l5 k ++ l2=φ at HN0' HEl HUB
     generalize Q6 k y=Lt at HN0' HEl HLL
     generalize (l5 k ++ [r]).map (j3 S2)=Rs at HN0' HEl HLR HX4
     obtain ⟨N,hN⟩ : ∃ N,N=k + 1:=⟨_,rfl⟩
     rw [← hN] at HLL HLR hL2 ⊢
     have HN:=hid hN
     have hN9:=hid (show N≤9 by omega)
     clear hN
     go_wp2_with fail
     go_loopw [117] (fun i wr => ∃ (j : Nat),i=.int .i64 j∧j≤N∧Hid (∃ c seen outs f,NumI (bp + 1) F W7 kn2 ro2 rk2 S2 φ Lt Rs m0 m1 m2 g cap' bn j c seen outs f wr∧seen.length≤j)) (fun i _ => N - (intOf i).toNat)
     case atStart => exact ⟨0,rfl,Nat.zero_le _,_,_,_,_,HN0',Nat.le_refl _⟩
     case round =>
      obtain ⟨j,rfl,hj,HQ⟩:=hrel
      clear HN0'
      obtain ⟨c3,seen,outs,f3,hI,hse⟩:=HQ.out
      have HI:=hid hI
      have HSE:=hid hse
      clear hI HQ hse
      by_cases hltj : j<N
      ·obtain ⟨x,hx,hLx,hRx⟩:=HEl.out j (by have:=HLL.out; omega) (by have:=HLR.out; omega)
       have hjL : j<Lt.length:=by have:=HLL.out; omega
       have hjR : j<Rs.length:=by have:=HLR.out; omega
       obtain ⟨cj,zj,hgl⟩:=HI.out.cell hjL
       rw [hLx] at cj
       have hxl : x<c3.up.length:=by have:=HI.out.cls.sim.len.2; omega
       have C:=hid (HI.out.cls.top hxl)
       clear hxl
       have HX0:=hid (show ∃ _ : x<φ.length,Rs[j]=j3 S2 φ[x] from ⟨hx,hRx⟩)
       clear hx hRx hLx
       go_wp2_with fail
       (with_reducible refine Calls.mono C.out ?_)
       rintro e w9 ⟨up',rfl,hlu,hct,hmt⟩
       have HI2:=hid (HI.out.move hct hmt (fun a ha => .inl ha))
       clear C hct hmt hlu cj zj hgl HI
       generalize c3.withUp up'=c4 at HI2
       obtain ⟨hx,hRx⟩:=HX0.out
       obtain ⟨cj,zj,hgl⟩:=HI2.out.cell hjL
       have hul : c4.ps.length=φ.length:=by have h1:=HI2.out.cls.ps; have h2:=HI2.out.cls.sim.len.2; omega
       obtain ⟨gk,hgk,hgkl,hpl,hkcell⟩:=HI2.out.cls.hin.krow (by omega)
       have hrl : ro2 x<c4.ps.length:=by
        have:=HI2.out.cls.sim.ro_lt x (by have h2:=HI2.out.cls.sim.len.2; omega)
        have h1:=HI2.out.cls.ps
        omega
       have hkc:=hkcell (ro2 x) hrl
       have f5:=HI2.out.cls.hin.cells.2.1
       have hFl:=HI2.out.cls.hin.cells.2.2
       rw [hgk] at f5
       have HPL:=hid hul
       rcases HI2.out.cls.sim.look (x:=x) (by have h2:=HI2.out.cls.sim.len.2; omega) with nk | ⟨v,sk⟩
       ·have hps : c4.ps[ro2 x]=none:=by
         have:=HI2.out.cls.hin.free _ nk
         rw [List.getElem?_eq_getElem hrl] at this
         exact Option.some.inj this
        rw [hps] at hkc
        have h5:=HI2.out.cls.sim.free x hx nk
        have HNK:=hid nk
        have HH5:=hid h5
        have HRX:=hid hRx
        have HHX:=hid hx
        clear hul hkcell hgk hps nk h5 hRx
        have hq8 : ro2 x≤100000000:=by have h1:=HPL.out; have h2:=HUB.out; omega
        have hlk:=HI2.out.look hq8
        have hre:=HI2.out.rel x hx HNK
        have hnl : ¬ Rs[j]<5:=by have h1:=HRX.out; have h2:=HH5.out; omega
        have HNL:=hid hnl
        rw [← HRX.out] at hre
        by_cases hm : Rs[j]∈seen
        ·rw [if_pos hm] at hre
         rw [hre] at hlk
         have HI3:=hid (HI2.out.old hjL hjR hnl hm)
         obtain ⟨hlk1,hlk2⟩:=hlk
         generalize 5 + (seen.idxOf Rs[j] : Int)=v at HI3 hlk1 hlk2
         clear hre hnl hm hq8
         go_wp2_with fail
         go_roundw
         case rel => exact ⟨j + 1,by go_num,by omega,_,_,_,_,HI3,by have:=HSE.out; omega⟩
         case measure => simp [intOf]; omega
        ·rw [if_neg hm] at hre
         have HRE:=hid hre
         rw [hre] at hlk
         obtain ⟨hlk1,hlk2⟩:=hlk
         have HMM:=hid hm
         have HQ8:=hid hq8
         have hlen:=HI2.out.names.len (ty:=3) Tryz.underlying92
         have hwr : IntKind.i64.wrap (5 + (seen.length : Int))=5 + (seen.length : Int):=IntWalk.i64_in _ (by have:=HSE.out; have:=hN9.out; omega)
         clear hre hnl hm hq8 hlk2
         go_wp2_with (at_mapUpdate; refine fQ HI2.out.names rfl _ _ _ 92 rfl 3 a2G Tryz.underlying92 rfl (by have:=HSE.out; have:=hN9.out; unfold maxLen; omega) _ _ _ rfl rfl (mX (t:=(ro2 x : Nat)) (by have:=HQ8.out; omega)) HRE ?_)
         intro w10 hmp hgr
         obtain ⟨f',e1,e2⟩ : ∃ f' : Lit→Option Value,f' (.int .i64 (ro2 x : Nat))=some (.int .i64 (5 + (seen.length : Int)))∧∀ y,y≠.int .i64 (ro2 x : Nat)→f' y=f3 y:=by
          classical exact ⟨fun y => if y=.int .i64 (ro2 x : Nat) then some (.int .i64 (5 + (seen.length : Int))) else f3 y,if_pos rfl,fun y hy => if_neg hy⟩
         have HI3:=hid (HI2.out.add hx HNK (by rw [← HRX.out]; exact HMM) hgr (hmp f' e1 e2) e1 e2 hjR HRX)
         clear hmp hgr e1 e2 hlen hwr hlk1 cj zj hgl
         rw [← HRX.out] at HI3
         obtain ⟨cj,zj,hgl⟩:=HI3.out.cell hjL
         have hre:=HI3.out.rel x hx HNK
         rw [← HRX.out,if_pos (List.mem_append_right _ (List.mem_singleton_self _))] at hre
         have hlk:=(HI3.out.look HQ8).2
         rw [hre] at hlk
         have HI4:=hid (HI3.out.old hjL hjR (by have:=HNL.out; omega) (List.mem_append_right _ (List.mem_singleton_self _)))
         generalize 5 + ((seen ++ [Rs[j]]).idxOf Rs[j] : Int)=v at HI4 hlk
         clear hre HI3
         go_wp2_with fail
         go_roundw
         case rel => exact ⟨j + 1,by go_num,by omega,_,_,_,_,HI4,by rw [List.length_append]; have:=HSE.out; show _ + 1≤_; omega⟩
         case measure => simp [intOf]; omega
       ·obtain ⟨b,e1',hB1,hbl,-,-,hbv⟩:=HI2.out.cls.hin.got _ v sk
        have hps : c4.ps[ro2 x]=some ⟨b,0,none⟩:=by
         rw [List.getElem?_eq_getElem hrl] at e1'
         exact Option.some.inj e1'
        rw [hps] at hkc
        have h5:=HI2.out.cls.sim.known x hx v sk
        have HI3:=hid (HI2.out.known hjL hjR (hRx.trans h5.1) h5.2.2)
        clear hul hkcell hgk hps sk h5 hx hRx e1'
        go_wp2_with fail
        go_roundw
        case rel => exact ⟨j + 1,by go_num,by omega,_,_,_,_,HI3,by have:=HSE.out; omega⟩
        case measure => simp [intOf]; omega
      ·obtain rfl : j=N:=by omega
       have hout:=HI.out.out
       rw [List.drop_of_length_le (by have:=HLR.out; omega),r7,List.append_nil] at hout
       have hko : k<outs.length:=by have h1:=hout.1; have h2:=HN.out; omega
       have HRow:=hid HI.out.row
       have hg9:=HI.out.gA.1.1
       have hcapN : j≤cap'∧cap'≤maxLen:=by
        rcases HRow.out.2 with ⟨e,-⟩ | ⟨g',cap2,cur,e,-,-,h3,h4,-⟩
        ·cases e
        ·cases e; exact ⟨by have:=HLL.out; omega,h4⟩
       have HCells:=hid (show ∀ i (hi : i<outs.length),wr.cell? ⟨g,i,none⟩=some (.int .i64 outs[i]) from fun i hi => by
        have:=HRow.out.cells (g:=g) rfl i (.int .i64 outs[i]) (by rw [List.drop_of_length_le (by have:=HLL.out; omega),List.append_nil,List.getElem?_map,List.getElem?_eq_getElem hi]; rfl)
        rwa [Go.WideShapes.add_plain,Nat.zero_add] at this)
       have HOut:=hid hout
       have HO10:=hid (show Off w.heap.size F w wr from HO7.out.trans (HI.out.off.sub (by have:=HBS.out; omega)))
       have N10:=hid (show c6 w.heap.size t (some ⟨kb,ko,none⟩) cap wr from (HI.out.off.block _ ⟨by have:=HBS.out; omega,by have:=HN0.out; omega⟩).trans N9)
       have K10:=hid (show y5 (w.heap.size + 1) ⟨#[]⟩ none 0 0 0 wr from (HI.out.off.block _ ⟨by have:=HBS.out; omega,by have:=HN0.out; omega⟩).trans K9)
       have ck:=HCells.out k hko
       have HKO:=hid hko
       have HLast:=hid (show (r7 Rs []).getLastD 0=outs[k]∧(r7 Rs []).dropLast.length=k from by
        rw [← hout.2]
        have h1 : outs.length=k + 1:=by have h1:=hout.1; have h2:=HN.out; omega
        exact ⟨qX h1,by rw [List.length_dropLast,h1]; rfl⟩)
       have HCK:=hid (show g≠w.heap.size + 1∧w.heap.size + 2≤g from by have h1:=(HRow.out.lt g rfl).1; have h2:=HBS.out; omega)
       have hFB : gQ F m0 m1 m2 wr:=by
        have:=HI.out.cls.hin.box
        unfold CM.box at this
        rw [HI.out.ms.1,HI.out.ms.2.1,HI.out.ms.2.2] at this
        exact ⟨_,_,_,this⟩
       have HFBX:=hid hFB
       obtain ⟨⟨n0,n1,n2,n3,n4⟩,-⟩:=N10.out.cells
       obtain ⟨⟨k0,k1,k2⟩,⟨l0,l1,l2'⟩,hkl⟩:=K10.out.cells
       have hb10:=N10.out.lt
       have hle3 : ((k : Nat) : Int)≤(cap' : Nat):=by have:=HN.out; omega
       have hkj : k<j:=by have:=HN.out; omega
       have hkj' : ((k : Nat) : Int)<(j : Nat):=by omega
       generalize outs[k]=ok at ck HLast
       have HCAPN:=hid hcapN
       clear hout hko hcapN hFB HI
       go_upto_region 31 with fail
       refine wp_region_held_drew (S:=fun cur => cur.cell? ⟨w.heap.size,1,none⟩=some (.string t.text)∧cur.cell? ⟨g,k,none⟩=some (.int .i64 ok)) (by kernel_rfl) ?_ (fun hHeld => ?_)
       ·exact ⟨n1,ck⟩
       refine a8 0 ?_; refine a8 1 ?_; refine a8 2 ?_; refine a8 3 ?_; refine a8 4 ?_; refine a8 5 ?_; refine a8 6 ?_; refine a8 7 ?_; refine a8 8 ?_; refine a8 9 ?_; refine a8 10 ?_
       refine wpAnyH_ready (rs:=[11]) (by kernel_rfl) (by simp) ?_
       refine AllReadyH.cons (r6 rfl) (fun K hK => ?_) AllReadyH.nil
       have k0' : wr.drew.cell? ⟨w.heap.size + 1,0,none⟩=some (.string ⟨#[]⟩):=k0
       have k1' : wr.drew.cell? ⟨w.heap.size + 1,1,none⟩=some (.slice none 0 0):=k1
       have k2' : wr.drew.cell? ⟨w.heap.size + 1,2,none⟩=some (.int .i64 0):=k2
       have l0' : wr.drew.frozen? ⟨w.heap.size + 1,0,none⟩=false:=l0
       have l1' : wr.drew.frozen? ⟨w.heap.size + 1,1,none⟩=false:=l1
       have l2'' : wr.drew.frozen? ⟨w.heap.size + 1,2,none⟩=false:=l2'
       go_simp
       obtain ⟨WF,hWF⟩ : ∃ W,W=(mM wr (w.heap.size + 1) t.text (some ⟨g,0,none⟩) k k ok).drew:=⟨_,rfl⟩
       have KF:=hid (show y5 (w.heap.size + 1) t.text (some ⟨g,0,none⟩) k k ok WF from hWF ▸ K10.out.put t.text (some ⟨g,0,none⟩) k k ok)
       have HBF:=hid (show ∀ d,d≠w.heap.size + 1→WF.heap[d]?=wr.heap[d]? from fun d hd => by
        rw [hWF]
        exact (Below.heap_setCell _ _ _ _ hd).trans ((Below.heap_setCell _ _ _ _ hd).trans (Below.heap_setCell _ _ _ _ hd)))
       have HTF:=hid (show WF.os=wr.os∧WF.tape=wr.tape∧WF.output=wr.output∧WF.heap.size=wr.heap.size by rw [hWF]; exact ⟨rfl,rfl,rfl,by simp [mM,World.setCell]⟩)
       unfold mM at hWF
       rw [← hWF]
       clear hWF
       refine hK.out _ _ ⟨(World.cell?_of_block (HBF.out w.heap.size (by omega))).trans n1,(World.cell?_of_block (HBF.out _ HCK.out.1)).trans ck⟩ (fun hHeld => ?_)
       clear hK K
       try simp only [Act.put]
       refine wpAnyH_done (by kernel_rfl) ?_ _
       go_wp2_with fail
       refine bodyPost_ret (v:=.agg #[.string t.text,.slice (some ⟨g,0,none⟩) k k,.int .i64 ok]) (by
        obtain ⟨⟨z0,z1,z2⟩,-⟩:=KF.out.cells
        simp [results,Tryz.results30,go_sem,z0,z1,z2]) rfl ?_
       unfold a15
       rw [HX4.out]
       have hFBW : gQ F m0 m1 m2 WF:=by
        obtain ⟨x3',x4',x5',hx⟩:=HFBX.out
        exact ⟨x3',x4',x5',(HBF.out F (by have:=HN0.out; omega)).trans hx⟩
       refine ⟨g,k,by simp only [HLast.out.1,HLast.out.2],by have:=HCK.out; omega,by rw [HTF.out.2.2.2]; exact hg9,by simp only [HLast.out.2]; exact Nat.le_refl _,by have:=HCAPN.out; omega,fun i hi => ?_,⟨HTF.out.1.trans HO10.out.os,HTF.out.2.1.trans HO10.out.tape,HTF.out.2.2.1.trans HO10.out.output,by rw [HTF.out.2.2.2]; exact HO10.out.size,fun d hd => (HBF.out d (by have:=hd.1; omega)).trans (HO10.out.block d hd)⟩,hFBW⟩
       have hi2 : i<outs.length:=by have h1:=HLast.out.2; have h2:=HKO.out; simp only at hi; omega
       have hcl:=(World.cell?_of_block (HBF.out _ HCK.out.1)).trans (HCells.out i hi2)
       rw [hcl]
       simp only [List.getElem_dropLast]
       simp only [← HOut.out.2]
end
end Go.Proofs.YtppcfebnaieciaaGreatDoor
