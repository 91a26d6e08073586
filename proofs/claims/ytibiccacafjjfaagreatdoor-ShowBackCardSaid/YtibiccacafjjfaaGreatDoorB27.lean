/-
  Laws that the proof rests on.
-/
import Derived.Test.YtibiccacafjjfaaGreatDoorB26
import Derived.Test.YtibiccacafjjfaaGreatDoorB02
namespace Go.Proofs.YtibiccacafjjfaaGreatDoor
set_option maxRecDepth 100000
set_option maxHeartbeats 16000000
section
open Go.RowKit
theorem a2r (P g cap : Nat) (ts : List Tk) (he : y7 ts) (htk : ∀ t∈ts,z8 t) (l : List Tk) (hE : ∀ r,r.length<l.length→CQ 25 .expr P g cap ts r) : CQ 210 .atom P g cap ts l:=by
 intro nest w hn h
 rw [t7]
 by_cases h6 : (hd l).kind=6
 ·rw [show rE rd .atom nest l=.ok (mkN 5 [] (hd l).n [] (hd l).pos,b9 l) from if_pos h6]
  exact a3q P g cap ts he htk nest l w h h6
 by_cases h5 : (hd l).kind=5
 ·rw [show rE rd .atom nest l=.ok (mkN 6 [] (hd l).n [] (hd l).pos,b9 l) from (if_neg h6).trans (if_pos h5)]
  exact a2m P g cap ts he htk nest l w h h5
 by_cases h4 : (hd l).kind=4
 ·rw [show rE rd .atom nest l=.ok (mkN 7 (hd l).text 0 [] (hd l).pos,b9 l) from (if_neg h6).trans ((if_neg h5).trans (if_pos h4))]
  exact a2c P g cap ts he htk nest l w h h4
 by_cases h1 : (hd l).kind=1∨(hd l).kind=3
 ·rw [show rE rd .atom nest l=uK nest l from (if_neg h6).trans ((if_neg h5).trans ((if_neg h4).trans (if_pos h1)))]
  exact zI P g cap ts he htk nest l w h hn h1 hE
 have hN : (hd l).kind≠6∧(hd l).kind≠5∧(hd l).kind≠4∧(hd l).kind≠1∧(hd l).kind≠3:=⟨h6,h5,h4,fun e => h1 (.inl e),fun e => h1 (.inr e)⟩
 have q : ∀ {y : Rd} {x : Rd},y=x→Calls Tryz.prog 210 #[.pointer (some ⟨P,0,none⟩)] w (QP P g cap ts nest x w)→Calls Tryz.prog 210 #[.pointer (some ⟨P,0,none⟩)] w (QP P g cap ts nest y w):=fun e c => e ▸ c
 have base : ∀ {x : Rd},(if isT bJ l=true then .ok (mkN 8 [] 1 [] (hd l).pos,b9 l) else if isT U4 l=true then .ok (mkN 8 [] 0 [] (hd l).pos,b9 l)
  else if isT bX l=true then F0 7 (b9 l) fun s r => .ok (mkN 9 s.text 0 [] (hd l).pos,r)
  else if isT bY l=true then F0 7 (b9 l) fun s r => d9 o6 r fun r => (rd .expr nest r).then fun a r => d9 l0 r fun r => (rd .expr nest r).then fun b r => d9 l0 r fun r => (rd .expr nest r).then fun c r => d9 m5 r fun r => made (mkN 15 s.text 0 [a,b,c] (hd l).pos) r
  else if isT o6 l=true then (rd .expr nest (b9 l)).then fun x r => d9 m5 r fun r => .ok (x,r)
  else .error (74,(hd l).pos) : Rd)=x→rE rd .atom nest l=x:=fun e => (if_neg h6).trans ((if_neg h5).trans ((if_neg h4).trans ((if_neg h1).trans e)))
 cases hT : isT bJ l
 case true => exact q (base (by rw [hT,if_pos rfl])) (a0e P g cap ts he htk nest l w h hN hT)
 cases hF : isT U4 l
 case true => exact q (base (by rw [hT,if_neg (by decide),hF,if_pos rfl])) (yL P g cap ts he htk nest l w h hN hT hF)
 cases hD : isT bX l
 case true => exact q (base (by rw [hT,if_neg (by decide),hF,if_neg (by decide),hD,if_pos rfl])) (a0w P g cap ts he htk nest l w h hN hT hF hD)
 cases hK : isT bY l
 case true => exact q (base (by rw [hT,if_neg (by decide),hF,if_neg (by decide),hD,if_neg (by decide),hK,if_pos rfl])) (a05 P g cap ts he htk nest l w h hN hT hF hD hn hK hE)
 cases hO : isT o6 l
 case true => exact q (base (by rw [hT,if_neg (by decide),hF,if_neg (by decide),hD,if_neg (by decide),hK,if_neg (by decide),hO,if_pos rfl])) (yE P g cap ts he htk nest l w h hN hT hF hD hK hn hO hE)
 exact q (base (by rw [hT,if_neg (by decide),hF,if_neg (by decide),hD,if_neg (by decide),hK,if_neg (by decide),hO,if_neg (by decide)])) (zN P g cap ts he htk nest l w h hN hT hF hD hK hO)
structure AllQ (P g cap : Nat) (ts l : List Tk) : Prop where
 e : CQ 25 .expr P g cap ts l
 o : CQ 51 (.chain 0) P g cap ts l
 a : CQ 88 (.chain 1) P g cap ts l
 n : CQ 124 .not P g cap ts l
 s : CQ 153 (.chain 2) P g cap ts l
 p : CQ 181 (.chain 3) P g cap ts l
 u : CQ 197 .unary P g cap ts l
theorem wE (P g cap : Nat) (ts : List Tk) (he : y7 ts) (htk : ∀ t∈ts,z8 t) : ∀ (N : Nat) (l : List Tk),l.length<N→AllQ P g cap ts l
 | 0,l,h => absurd h (Nat.not_lt_zero _)
 | N + 1,l,h => by
   have ih : ∀ r,r.length<N→AllQ P g cap ts r:=fun r hr => wE P g cap ts he htk N r hr
   have hA : ∀ l : List Tk,l.length≤N→CQ 210 .atom P g cap ts l:=fun l hl => a2r P g cap ts he htk l fun r hr => (ih r (by omega)).e
   have hU : ∀ l : List Tk,l.length≤N→CQ 197 .unary P g cap ts l:=fun l hl => a0v P g cap ts he htk l (hA l hl) fun ht => (ih _ (by have:=n5 ht; omega)).u
   have hP : ∀ l : List Tk,l.length≤N→CQ 181 (.chain 3) P g cap ts l:=fun l hl => a3y P g cap ts he htk l fun r hr => hU r (by omega)
   have hS : ∀ l : List Tk,l.length≤N→CQ 153 (.chain 2) P g cap ts l:=fun l hl => a3N P g cap ts he htk l fun r hr => hP r (by omega)
   have hN : ∀ l : List Tk,l.length≤N→CQ 124 .not P g cap ts l:=fun l hl => a3V P g cap ts he htk l (fun r hr => hS r (by omega)) fun ht => (ih _ (by have:=n5 ht; omega)).n
   have hD : ∀ l : List Tk,l.length≤N→CQ 88 (.chain 1) P g cap ts l:=fun l hl => a5x P g cap ts he htk l fun r hr => hN r (by omega)
   have hO : ∀ l : List Tk,l.length≤N→CQ 51 (.chain 0) P g cap ts l:=fun l hl => a6s P g cap ts he htk l fun r hr => hD r (by omega)
   have hl : l.length≤N:=by omega
   exact ⟨a3f P g cap ts he htk l (hO l hl) fun r hr => (ih r (by omega)).e,hO l hl,hD l hl,hN l hl,hS l hl,hP l hl,hU l hl⟩
theorem a11 (P g cap : Nat) (ts : List Tk) (he : y7 ts) (htk : ∀ t∈ts,z8 t) (l : List Tk) : CQ 25 .expr P g cap ts l:=(wE P g cap ts he htk _ l (Nat.lt_succ_self _)).e
end
section
open Go.RowKit
theorem lD {W : World} {B T k g n cap : Nat} {xs : List Value} (h : W.ownsRow B T k (.slice (some ⟨g,0,none⟩) n cap) n xs) (j : Nat) (v : Value) : (W.setCell ⟨g,j,none⟩ v).ownsRow B T k (.slice (some ⟨g,0,none⟩) n cap) n (xs.set j v):=by
 obtain ⟨h1,h2⟩:=h
 refine ⟨by rw [List.length_set]; exact h1,.inr ?_⟩
 rcases h2 with ⟨e,-⟩ | ⟨g',cap',cur,e,hb,hg,h3,h4,h5,h6⟩
 ·obtain ⟨e,-⟩:=Value.slice.inj e; cases e
 ·obtain ⟨e1,-,e2⟩:=Value.slice.inj e
  cases e1; subst e2
  refine ⟨g,cap,cur.set! j v,rfl,hb,l5 hg j v,h3,h4,by simpa using h5,?_⟩
  rw [Array.set!_eq_setIfInBounds,Array.toList_setIfInBounds,List.take_set,h6]
theorem a5R {W : World} {B T k g n cap : Nat} {xs : List Value} (h : W.ownsRow B T k (.slice (some ⟨g,0,none⟩) n cap) n xs) : ∃ cur,W.heap[g]?=some (.cells cur T (0,0)):=by
 obtain ⟨-,h2⟩:=h
 rcases h2 with ⟨e,-⟩ | ⟨g',cap',cur,e,hb,hg,-⟩
 ·obtain ⟨e,-⟩:=Value.slice.inj e; cases e
 ·obtain ⟨e1,-,e2⟩:=Value.slice.inj e
  cases e1
  exact ⟨cur,hg⟩
def zR (W : World) (b o : Nat) (t : Nd) (a : Option Addr) (cp : Nat) : World:=((((W.setCell ⟨b,o,none⟩ (.int .i64 t.kind)).setCell ⟨b,o + 1,none⟩ (.string t.text)).setCell ⟨b,o + 2,none⟩ (.int .i64 t.n)).setCell ⟨b,o + 3,none⟩ (.slice a t.kids.length cp)).setCell ⟨b,o + 4,none⟩ (.int .i64 t.place)
def dF : List Value:=[.int .i64 0,.string ⟨#[]⟩,.int .i64 0,.slice none 0 0,.int .i64 0]
theorem a1r {W : World} {B T g n cap : Nat} {xs : List Value} (hx : xs.length=n * 5) (h : W.ownsRow B T 5 (.slice (some ⟨g,0,none⟩) (n + 1) cap) (n + 1) (xs ++ dF)) (e : Ent) : (zR W g (n * 5) e.1 e.2.1 e.2.2).ownsRow B T 5 (.slice (some ⟨g,0,none⟩) (n + 1) cap) (n + 1) (xs ++ ndC e):=by
 have h5:=lD (lD (lD (lD (lD h (n * 5) (.int .i64 e.1.kind)) (n * 5 + 1) (.string e.1.text)) (n * 5 + 2) (.int .i64 e.1.n)) (n * 5 + 3) (.slice e.2.1 e.1.kids.length e.2.2)) (n * 5 + 4) (.int .i64 e.1.place)
 have e5 : (((((xs ++ dF).set (n * 5) (.int .i64 e.1.kind)).set (n * 5 + 1) (.string e.1.text)).set (n * 5 + 2) (.int .i64 e.1.n)).set (n * 5 + 3) (.slice e.2.1 e.1.kids.length e.2.2)).set (n * 5 + 4) (.int .i64 e.1.place)=xs ++ ndC e:=by
  rw [← hx]
  simp [dF,ndC]
 rw [e5] at h5
 exact h5
theorem lG {W : World} {B T g n cap : Nat} {xs : List Value} (hx : xs.length=n * 5) (h : W.ownsRow B T 5 (.slice (some ⟨g,0,none⟩) (n + 1) cap) (n + 1) (xs ++ dF)) : (W.cell? ⟨g,n * 5,none⟩=some (.int .i64 0)∧W.cell? ⟨g,n * 5 + 1,none⟩=some (.string ⟨#[]⟩)∧W.cell? ⟨g,n * 5 + 2,none⟩=some (.int .i64 0)∧W.cell? ⟨g,n * 5 + 3,none⟩=some (.slice none 0 0)∧W.cell? ⟨g,n * 5 + 4,none⟩=some (.int .i64 0)) ∧
 (W.frozen? ⟨g,n * 5,none⟩=false∧W.frozen? ⟨g,n * 5 + 1,none⟩=false∧W.frozen? ⟨g,n * 5 + 2,none⟩=false∧W.frozen? ⟨g,n * 5 + 3,none⟩=false∧W.frozen? ⟨g,n * 5 + 4,none⟩=false):=by
 have hc:=h.cells (g:=g) rfl
 obtain ⟨cur,hg⟩:=a5R h
 have q : ∀ i u,dF[i]?=some u→W.cell? ⟨g,n * 5 + i,none⟩=some u:=fun i u hu => by
  have:=hc (n * 5 + i) u (by rw [List.getElem?_append_right (by omega),hx,Nat.add_sub_cancel_left]; exact hu)
  rw [Go.WideShapes.add_plain,Nat.zero_add] at this
  exact this
 refine ⟨⟨q 0 _ rfl,q 1 _ rfl,q 2 _ rfl,q 3 _ rfl,q 4 _ rfl⟩,?_,?_,?_,?_,?_⟩ <;> simp [World.frozen?,hg]
theorem fL (W : World) (b o : Nat) (t : Nd) (a : Option Addr) (cp : Nat) {d : Nat} (hd : d≠b) : (zR W b o t a cp).heap[d]?=W.heap[d]? :=
 (Below.heap_setCell _ _ _ _ hd).trans ((Below.heap_setCell _ _ _ _ hd).trans ((Below.heap_setCell _ _ _ _ hd).trans ((Below.heap_setCell _ _ _ _ hd).trans (Below.heap_setCell _ _ _ _ hd))))
theorem jZ {W W' : World} {B T k g n cap : Nat} {xs : List Value} (h : W.ownsRow B T k (.slice (some ⟨g,0,none⟩) n cap) n xs) (hg : W'.heap[g]?=W.heap[g]?) : W'.ownsRow B T k (.slice (some ⟨g,0,none⟩) n cap) n xs:=by
 obtain ⟨h1,h2⟩:=h
 refine ⟨h1,.inr ?_⟩
 rcases h2 with ⟨e,-⟩ | ⟨g',cap',cur,e,hb,hg',r⟩
 ·obtain ⟨e,-⟩:=Value.slice.inj e; cases e
 ·obtain ⟨e1,-,e2⟩:=Value.slice.inj e
  cases e1; subst e2
  exact ⟨g,cap,cur,rfl,hb,hg.trans hg',r⟩
def iW (base nb : Nat) (k : Int) (s : ByteArray) (p : Int) (acc : List Nd) (W : World) : Prop:=base≤W.heap.size∧∃ (L : List Ent) (ao : Option Addr) (cp : Nat),L.map (·.1)=acc∧W.heap[nb]?=some (.cells #[.int .i64 k,.string s,.int .i64 0,.slice ao L.length cp,.int .i64 p] 24 (0,0)) ∧
 W.ownsRow base 24 5 (.slice ao L.length cp) L.length (Y1 L)∧∀ e∈L,e.1.lies (fun c => base≤c∧c<W.heap.size∧(Value.slice ao L.length cp).ownBlock≠some c) W e.2.1 e.2.2
theorem iW.grown {base nb P : Nat} {k p : Int} {s : ByteArray} {acc : List Nd} {W W' : World} (h : iW base nb k s p acc W) (g : W.grownBy W' (some P)) (hP : P<base) (hk : nb≠P) : iW base nb k s p acc W':=by
 obtain ⟨h2,L,ao,cp,h3,h4,h5,h6⟩:=h
 have hkb : nb<W.heap.size:=(Array.getElem?_eq_some_iff.1 h4).1
 refine ⟨Nat.le_trans h2 g.size,L,ao,cp,h3,(g.block nb hkb (fun e => hk (Option.some.inj e))).trans h4,h5.kept g ?_,fun e he => ?_⟩
 ·cases hv : (Value.slice ao L.length cp).ownBlock with
  | none => exact .inl rfl
  | some c => exact .inr (fun e => by have:=(h5.lt c hv).1; cases e; omega)
 ·exact d5 (h6 e he) (fun c hc => g.block c hc.2.1 (fun e => by have:=Option.some.inj e; have:=hc.1; omega)) fun c hc => ⟨hc.1,Nat.lt_of_lt_of_le hc.2.1 g.size,hc.2.2⟩
theorem iW.snoc {base nb gb cap' : Nat} {k p : Int} {s : ByteArray} {L : List Ent} {ao : Option Addr} {cp : Nat} {w4 w6 W : World} {e : Ent} {H : Nat} {av : Nat→Prop} (hbs : base≤w4.heap.size) (hnb : nb<base)
 (hl : ∀ u∈L,u.1.lies (fun c => base≤c∧c<w4.heap.size∧(Value.slice ao L.length cp).ownBlock≠some c) w4 u.2.1 u.2.2)
 (he : e.1.lies av w4 e.2.1 e.2.2) (hav : ∀ c,av c→base≤c∧c<w4.heap.size∧(Value.slice ao L.length cp).ownBlock≠some c)
 (hg : ∀ d,d<w4.heap.size→(Value.slice ao L.length cp).ownBlock≠some d→w6.heap[d]?=w4.heap[d]?) (hat : (Value.slice ao L.length cp).ownBlock=some gb∨gb=H) (hH : w4.heap.size≤H) (hsz : w4.heap.size≤w6.heap.size)
 (hW : ∀ d,d≠nb→d≠gb→W.heap[d]?=w6.heap[d]?) (hWs : W.heap.size=w6.heap.size) (hWn : W.heap[nb]?=some (.cells #[.int .i64 k,.string s,.int .i64 0,.slice (some ⟨gb,0,none⟩) (L.length + 1) cap',.int .i64 p] 24 (0,0)))
 (hWo : W.ownsRow base 24 5 (.slice (some ⟨gb,0,none⟩) (L.length + 1) cap') (L.length + 1) (Y1 L ++ ndC e)) : iW base nb k s p (L.map (·.1) ++ [e.1]) W:=by
 have hlen : (L ++ [e]).length=L.length + 1:=by simp
 have hgb2 : ∀ c,c<w4.heap.size→(Value.slice ao L.length cp).ownBlock≠some c→c≠gb:=fun c hc hne e => by
  subst e
  rcases hat with e | e
  ·exact hne e
  ·omega
 have key : ∀ {av : Nat→Prop} {u : Nd} {ua : Option Addr} {uc : Nat},u.lies av w4 ua uc→(∀ d,av d→base≤d∧d<w4.heap.size∧(Value.slice ao L.length cp).ownBlock≠some d)→u.lies (fun d => base≤d∧d<W.heap.size∧(Value.slice (some ⟨gb,0,none⟩) (L ++ [e]).length cap').ownBlock≠some d) W ua uc:=fun hl hav =>
  d5 hl (fun d hd => (hW d (by have:=(hav d hd).1; omega) (hgb2 d (hav d hd).2.1 (hav d hd).2.2)).trans (hg d (hav d hd).2.1 (hav d hd).2.2)) fun d hd => ⟨(hav d hd).1,by have:=(hav d hd).2.1; omega,fun e => hgb2 d (hav d hd).2.1 (hav d hd).2.2 (Option.some.inj e).symm⟩
 refine ⟨by omega,L ++ [e],some ⟨gb,0,none⟩,cap',by rw [List.map_append]; rfl,by rw [hlen]; exact hWn,by rw [oI,hlen]; exact hWo,fun u hu => ?_⟩
 rcases List.mem_append.1 hu with hu | hu
 ·exact key (hl u hu) fun d hd => hd
 ·obtain rfl:=List.mem_singleton.1 hu
  exact key he hav
end
section
open Lib (hid)
open Go.RowKit
def oD (base nb pb P : Nat) (k : Int) (s : ByteArray) (p : Int) (acc : List Nd) (W : World) : Prop:=W.cell? ⟨pb,0,none⟩=some (.pointer (some ⟨P,0,none⟩))∧iW base nb k s p acc W
theorem U9 (L : List Ent) : (Y1 L).length=L.length * 5:=by
 induction L with
 | nil => rfl
 | cons e L ih => unfold Y1 at ih ⊢; rw [List.flatMap_cons,List.length_append,ih,List.length_cons]; show 5 + _=_; omega
theorem qQ : ∀ u∈dF,u.oneCell'=true:=by
 intro u hu
 unfold dF at hu
 simp only [List.mem_cons,List.not_mem_nil,or_false] at hu
 rcases hu with rfl | rfl | rfl | rfl | rfl <;> rfl
theorem rD {T : Tk} (h : z8 T) (av : Nat→Prop) (W : World) : (mkN 4 T.text 0 [] T.pos).lies av W none 0 :=
 Nd.lies.mk' rfl (by show T.text.toArray.size≤maxLen; unfold maxLen; have:=h.2.2; simp; omega) rfl h.2.1 (Nat.le_refl _) (Nat.zero_le _) trivial
structure Fin2 (nb gb base cap' : Nat) (k : Int) (s : ByteArray) (p : Int) (L : List Ent) (e : Ent) (w6 W : World) : Prop where
 other : ∀ d,d≠nb→d≠gb→W.heap[d]?=w6.heap[d]?
 size : W.heap.size=w6.heap.size
 node : W.heap[nb]?=some (.cells #[.int .i64 k,.string s,.int .i64 0,.slice (some ⟨gb,0,none⟩) (L.length + 1) cap',.int .i64 p] 24 (0,0))
 own : W.ownsRow base 24 5 (.slice (some ⟨gb,0,none⟩) (L.length + 1) cap') (L.length + 1) (Y1 L ++ ndC e)
 os : W.os=w6.os
 tape : W.tape=w6.tape
 output : W.output=w6.output
theorem cE (W : World) (b o : Nat) (t : Nd) (a : Option Addr) (cp : Nat) : W.grownBy (zR W b o t a cp) (some b) :=
 b6 (b6 (b6 (b6 (e9 W b o _) (e9 _ b (o + 1) _)) (e9 _ b (o + 2) _)) (e9 _ b (o + 3) _)) (e9 _ b (o + 4) _)
section
variable {nb gb base cap' : Nat} {k p : Int} {s : ByteArray} {L : List Ent} {ao : Option Addr} {cp : Nat} {w6 : World}
theorem uN (hn : w6.heap[nb]?=some (.cells #[.int .i64 k,.string s,.int .i64 0,.slice ao L.length cp,.int .i64 p] 24 (0,0))) (ho : w6.ownsRow base 24 5 (.slice (some ⟨gb,0,none⟩) (L.length + 1) cap') (L.length + 1) (Y1 L ++ dF)) (hx : (Y1 L).length=L.length * 5) (hne : ¬ gb=nb) (e : Ent) :
 Fin2 nb gb base cap' k s p L e w6 ((zR w6 gb (L.length * 5) e.1 e.2.1 e.2.2).setCell ⟨nb,3,none⟩ (.slice (some ⟨gb,0,none⟩) (L.length + 1) cap')) :=
 ⟨fun d h1 h2 => (Below.heap_setCell _ _ _ _ h1).trans (fL _ _ _ _ _ _ h2),by simp [World.setCell,zR],l5 ((fL w6 gb _ _ _ _ (fun e => hne e.symm)).trans hn) 3 _,jZ (a1r hx ho e) (Below.heap_setCell _ _ _ _ hne),(e9 _ nb 3 _).os.trans (cE _ _ _ _ _ _).os,(e9 _ nb 3 _).tape.trans (cE _ _ _ _ _ _).tape,(e9 _ nb 3 _).output.trans (cE _ _ _ _ _ _).output⟩
theorem vA (hn : w6.heap[nb]?=some (.cells #[.int .i64 k,.string s,.int .i64 0,.slice ao L.length cp,.int .i64 p] 24 (0,0))) (ho : w6.ownsRow base 24 5 (.slice (some ⟨gb,0,none⟩) (L.length + 1) cap') (L.length + 1) (Y1 L ++ dF)) (hx : (Y1 L).length=L.length * 5) (hne : ¬ gb=nb) (e : Ent) :
 Fin2 nb gb base cap' k s p L e w6 (zR (w6.setCell ⟨nb,3,none⟩ (.slice (some ⟨gb,0,none⟩) (L.length + 1) cap')) gb (L.length * 5) e.1 e.2.1 e.2.2) :=
 ⟨fun d h1 h2 => (fL _ _ _ _ _ _ h2).trans (Below.heap_setCell _ _ _ _ h1),by simp [World.setCell,zR],(fL _ _ _ _ _ _ (fun e => hne e.symm)).trans (l5 hn 3 _),a1r hx (jZ ho (Below.heap_setCell _ _ _ _ hne)) e,(cE _ _ _ _ _ _).os.trans (e9 _ nb 3 _).os,(cE _ _ _ _ _ _).tape.trans (e9 _ nb 3 _).tape,(cE _ _ _ _ _ _).output.trans (e9 _ nb 3 _).output⟩
end
theorem iP {P g cap : Nat} {ts : List Tk} {nest base nb pb gb cap' : Nat} {k p : Int} {s : ByteArray} {L : List Ent} {ao : Option Addr} {cp : Nat} {acc : List Nd} {e : Ent} {q : List Tk} {w W4 W5 w6 W : World} (hP : P<base∧g<base) (hk : nb≠P∧nb≠g∧nb<base) (hp : pb≠P∧pb<base∧pb≠nb)
 (hG : w.grownBy W4 (some P)) (hS : SQ P g cap ts nest q W4) (hc : W4.cell? ⟨pb,0,none⟩=some (.pointer (some ⟨P,0,none⟩))) (hb : base≤W4.heap.size) (hM : L.map (·.1)=acc) (hOB : ∀ d,(Value.slice ao L.length cp).ownBlock=some d→base≤d∧d<W4.heap.size)
 (hL : ∀ e∈L,e.1.lies (fun c => base≤c∧c<W4.heap.size∧(Value.slice ao L.length cp).ownBlock≠some c) W4 e.2.1 e.2.2) {av : Nat→Prop} (hE : e.1.lies av W4 e.2.1 e.2.2) (hav : ∀ c,av c→base≤c∧c<W4.heap.size∧(Value.slice ao L.length cp).ownBlock≠some c) (B5 : Below W4.heap.size W4 W5) (hG6 : W5.grownBy w6 (Value.slice ao L.length cp).ownBlock) (hat : (Value.slice ao L.length cp).ownBlock=some gb∨gb=W5.heap.size) (hz5 : W4.heap.size≤W5.heap.size)
 (hgb : base≤gb∧gb<w6.heap.size) (hF : Fin2 nb gb base cap' k s p L e w6 W) : a6v P g cap ts nest nb base (oD base nb pb P k s p) acc (.ok (e.1,q)) w (.returned (.tuple #[])) W:=by
 have h6:=hG6.size
 have hsW:=hF.size
 have hlow : ∀ d,d<base→(Value.slice ao L.length cp).ownBlock≠some d:=fun d hd e => by have:=(hOB d e).1; omega
 have h1 : ∀ d,d<W4.heap.size→(Value.slice ao L.length cp).ownBlock≠some d→w6.heap[d]?=W4.heap[d]?:=fun d hd hne => (hG6.block d (by omega) (fun e => hne e.symm)).trans (B5.block d hd)
 have hgbk : ∀ d,d<base→d≠gb:=fun d hd e => by omega
 have h2 : ∀ d,d<base→d≠nb→W.heap[d]?=W4.heap[d]?:=fun d hd hn => (hF.other d hn (hgbk d hd)).trans (h1 d (by omega) (hlow d hd))
 refine ⟨⟨hF.os.trans (hG6.os.trans (B5.os.trans hG.os)),hF.tape.trans (hG6.tape.trans (B5.tape.trans hG.tape)),hF.output.trans (hG6.output.trans (B5.output.trans hG.output)),by have:=hG.size; omega,fun d hdB hdw hdP hdk => (h2 d hdB hdk).trans (hG.block d hdw (fun e => hdP (Option.some.inj e)))⟩,rfl,?_,?_,?_⟩
 ·refine hS.keeps (fun d hd => ?_) (by omega)
  rcases hd with rfl | rfl
  ·exact h2 _ hP.1 (fun e => hk.1 e.symm)
  ·exact h2 _ hP.2 (fun e => hk.2.1 e.symm)
 ·exact (World.cell?_of_block (h2 pb hp.2.1 hp.2.2)).trans hc
 ·rw [← hM]
  exact iW.snoc hb hk.2.2 hL hE hav h1 hat (by omega) (by omega) hF.other hsW hF.node hF.own
theorem a2f (P g cap : Nat) (ts : List Tk) (he : y7 ts) (htk : ∀ t∈ts,z8 t) (nest base nb pb : Nat) (s : ByteArray) (p : Int) (acc : List Nd) (r : List Tk) (w : World) (h : SQ P g cap ts nest r w) (hj : oD base nb pb P 3 s p acc w) (ha : acc.length≤8) (hP : P<base∧g<base) (hk : nb≠P∧nb≠g∧nb<base) (hp : pb≠P∧pb<base∧pb≠nb) :
 Calls Tryz.prog 98 #[.pointer (some ⟨pb,0,none⟩),.pointer (some ⟨nb,0,none⟩)] w (a6v P g cap ts nest nb base (oD base nb pb P 3 s p) acc (aU r) w):=by
 obtain ⟨i0,hi,hz0,hz1,hz2⟩:=info_parts (show (Tryz.prog.info? 24).map (fun i => (i.zero,i.size,i.bytes))=some (some (.agg #[.int .i64 0,.string ⟨#[]⟩,.int .i64 0,.slice none 0 0,.int .i64 0]),5,64) by kernel_rfl)
 have HI0:=hid (show _∧_∧_∧_ from ⟨hi,hz0,hz1,hz2⟩)
 clear hi hz0 hz1 hz2
 have HB:=hid h.blocks
 have HJ:=hid hj.2
 have HP0:=hid hj.1
 have hp0:=hj.1
 have hbase:=hid hj.2.1
 have HT0:=hid (htk _ h.mem)
 have C1:=hid (dS P g cap ts nest r 1 w h he)
 obtain ⟨x,hx⟩ : ∃ x,x=aU r:=⟨_,rfl⟩
 rw [← hx]
 rw [show aU r=goX (X4 1 (.ok r)) (fun q => .ok (mkN 4 (hd r).text 0 [] (hd r).pos,q)) from eO (.ok r) 1 (fun t q => .ok (mkN 4 t.text 0 [] t.pos,q)) (hd r) (fun q h => by cases h; rfl)] at hx
 have HX:=hid hx
 generalize hd r=T at C1 HX HT0
 generalize X4 1 (.ok r)=σ at C1 HX
 clear h he htk hj hx
 go_enter Tryz.func98,Tryz.ntmps98
 go_wp2_with fail
 (with_reducible refine Calls.mono C1.out ?_)
 intro e w3 hq
 cases σ with
 | error q =>
   obtain ⟨k0,p0⟩:=q
   obtain ⟨rfl,hg⟩:=hq
   refine And.intro rfl ?_
   rw [HX.out]
   exact ⟨Gx.of hg,rfl⟩
 | ok q =>
 obtain ⟨rfl,hs,hg⟩:=hq
 have HX2:=hid (show x=.ok (mkN 4 T.text 0 [] T.pos,q) from HX)
 have G3:=hid hg
 have S3:=hid hs
 have J3:=hid (HJ.out.grown hg hP.1 hk.1)
 have HP3:=hid (show w3.cell? ⟨pb,0,none⟩=some (.pointer (some ⟨P,0,none⟩)) from (World.cell?_of_block (hg.block pb (by have:=hbase.out; omega) (fun e => hp.1 (Option.some.inj e)))).trans HP0)
 clear hs hg C1 hp0
 unfold tkV
 obtain ⟨W4,hW4⟩ : ∃ W,W=w3.alloc (.cells #[.int .i64 T.kind,.string ⟨T.text.toArray⟩,.int .i64 T.n,.int .i64 T.pos] 79):=⟨_,rfl⟩
 have B4:=hid (show Below w3.heap.size w3 W4 from hW4 ▸ c6 _ _)
 have Q4:=hid (show QT w3.heap.size T W4 from hW4 ▸ QT.make w3 T)
 have BD:=hid (show Below W4.heap.size W4 W4.drew from A7 (Below.refl _ _))
 have S4:=hid ((S3.out.below B4).below BD)
 have G4:=hid (show w.grownBy W4.drew (some P) from b6 G3 (b8 (B4.out.trans (BD.out.mono B4.out.size))))
 obtain ⟨hb4,L,ao,cp,j3,j4,j5,j6⟩:=J3.out.grown (b8 (r:=some P) (B4.out.trans (BD.out.mono B4.out.size))) hP.1 hk.1
 have HM:=hid j3
 have HK4:=hid (show W4.heap[nb]?=some (.cells #[.int .i64 3,.string s,.int .i64 0,.slice ao L.length cp,.int .i64 p] 24 (0,0)) from j4)
 have HO4:=hid (show W4.ownsRow base 24 5 (.slice ao L.length cp) L.length (Y1 L) from j5)
 have HL6:=hid (show ∀ e∈L,e.1.lies (fun c => base≤c∧c<W4.heap.size∧(Value.slice ao L.length cp).ownBlock≠some c) W4 e.2.1 e.2.2 from fun e he => d5 (j6 e he) (fun c _ => rfl) fun c hc => hc)
 have hb4':=hid (show base≤W4.heap.size from hb4)
 have hLl : L.length≤8:=by rw [← j3,List.length_map] at ha; exact ha
 have HOB:=hid (show ∀ d,(Value.slice ao L.length cp).ownBlock=some d→base≤d∧d<W4.heap.size from fun d hd => HO4.out.lt d hd)
 have hnc : W4.cell? ⟨nb,3,none⟩=some (.slice ao L.length cp):=by simp [World.cell?,HK4.out]
 have HS4:=hid (show W4.drew.cell? ⟨nb,3,none⟩=some (.slice ao L.length cp)∧(W4.drew.cell? ⟨w3.heap.size,0,none⟩=some (.int .i64 T.kind)∧W4.drew.cell? ⟨w3.heap.size,1,none⟩=some (.string ⟨T.text.toArray⟩)∧W4.drew.cell? ⟨w3.heap.size,2,none⟩=some (.int .i64 T.n)∧W4.drew.cell? ⟨w3.heap.size,3,none⟩=some (.int .i64 T.pos)) from ⟨hnc,Q4.out.cells.1⟩)
 have HP4:=hid (show W4.cell? ⟨pb,0,none⟩=some (.pointer (some ⟨P,0,none⟩)) from (B4.out.cell (p:=⟨pb,0,none⟩) (by show pb<w3.heap.size; have:=G3.out.size; have:=hbase.out; omega)).trans HP3)
 clear j3 j4 j5 j6 hb4 hnc
 go_upto_region 1 with fail
 rw [← hW4]
 clear hW4
 refine cR (S:=(fun cur => cur.cell? ⟨nb,3,none⟩=some (.slice ao L.length cp)∧(cur.cell? ⟨w3.heap.size,0,none⟩=some (.int .i64 T.kind)∧cur.cell? ⟨w3.heap.size,1,none⟩=some (.string ⟨T.text.toArray⟩)∧cur.cell? ⟨w3.heap.size,2,none⟩=some (.int .i64 T.n)∧cur.cell? ⟨w3.heap.size,3,none⟩=some (.int .i64 T.pos)))) (Z:=[9,10,11,12,13]) (by kernel_rfl) ?_ (fun hHeld => ?_)
 ·exact HS4
 refine l6.take (i:=0) (v:=?_) (l3 rfl) (by kernel_rfl) (by kernel_rfl) (by kernel_rfl) (by kernel_rfl) (fun _ _ _ h => h) (Or.inl ⟨by rfl,?_⟩) (by assumption) ?_
 rotate_left
 ·(intro w hSw; (try dsimp only at hSw); go_simp; try with_reducible rfl)
 try simp only [Act.put,c9,f8,f7]
 refine l6.take (i:=1) (v:=?_) (l3 rfl) (by kernel_rfl) (by kernel_rfl) (by kernel_rfl) (by kernel_rfl) (fun _ _ _ h => h) (Or.inl ⟨by rfl,?_⟩) (by assumption) ?_
 rotate_left
 ·(intro w hSw; (try dsimp only at hSw); go_simp; try with_reducible rfl)
 try simp only [Act.put,c9,f8,f7]
 refine l6.take (i:=2) (v:=?_) (l3 rfl) (by kernel_rfl) (by kernel_rfl) (by kernel_rfl) (by kernel_rfl) (fun _ _ _ h => h) (Or.inl ⟨by rfl,?_⟩) (by assumption) ?_
 rotate_left
 ·(intro w hSw; (try dsimp only at hSw); go_simp; try with_reducible rfl)
 try simp only [Act.put,c9,f8,f7]
 refine l6.take (i:=3) (v:=?_) (l3 rfl) (by kernel_rfl) (by kernel_rfl) (by kernel_rfl) (by kernel_rfl) (fun _ _ _ h => h) (Or.inl ⟨by rfl,?_⟩) (by assumption) ?_
 rotate_left
 ·(intro w hSw; (try dsimp only at hSw); go_simp; try with_reducible rfl)
 try simp only [Act.put,c9,f8,f7]
 refine l6.take (i:=4) (v:=?_) (l3 rfl) (by kernel_rfl) (by kernel_rfl) (by kernel_rfl) (by kernel_rfl) (fun _ _ _ h => h) (Or.inl ⟨by rfl,?_⟩) (by assumption) ?_
 rotate_left
 ·(intro w hSw; (try dsimp only at hSw); go_simp; try with_reducible rfl)
 try simp only [Act.put,c9,f8,f7]
 refine l6.take (i:=5) (v:=?_) (l3 rfl) (by kernel_rfl) (by kernel_rfl) (by kernel_rfl) (by kernel_rfl) (fun _ _ _ h => h) (Or.inl ⟨by rfl,?_⟩) (by assumption) ?_
 rotate_left
 ·(intro w hSw; (try dsimp only at hSw); go_simp; try with_reducible rfl)
 try simp only [Act.put,c9,f8,f7]
 refine l6.take (i:=6) (v:=?_) (l3 rfl) (by kernel_rfl) (by kernel_rfl) (by kernel_rfl) (by kernel_rfl) (fun _ _ _ h => h) (Or.inl ⟨by rfl,?_⟩) (by assumption) ?_
 rotate_left
 ·(intro w hSw; (try dsimp only at hSw); go_simp; try with_reducible rfl)
 try simp only [Act.put,c9,f8,f7]
 refine l6.take (i:=7) (v:=?_) (l3 rfl) (by kernel_rfl) (by kernel_rfl) (by kernel_rfl) (by kernel_rfl) (fun _ _ _ h => h) (Or.inl ⟨by rfl,?_⟩) (by assumption) ?_
 rotate_left
 ·(intro w hSw; (try dsimp only at hSw); go_simp; try with_reducible rfl)
 try simp only [Act.put,c9,f8,f7]
 refine l6.next (i:=8) (by kernel_rfl) (l3 rfl) (fun K hK => ?_)
 go_simp
 obtain ⟨W5,hW5⟩ : ∃ W,W=(W4.alloc (.cells #[.int .i64 0,.string ⟨#[]⟩,.int .i64 0,.slice none 0 0,.int .i64 0] 24)).drew:=⟨_,rfl⟩
 have B5:=hid (show Below W4.heap.size W4 W5 from hW5 ▸ A7 (c6 _ _))
 have hz5:=hid (show W5.heap.size=W4.heap.size + 1 by rw [hW5]; show (W4.alloc _).heap.size=_; simp)
 have N5:=hid (show ∀ i u,dF[i]?=some u→W5.cell? ((⟨W4.heap.size,0,none⟩ : Addr).add i)=some u from hW5 ▸ aW W4 _ _ _ _ _ _)
 have O5:=hid (show W5.ownsRow base 24 5 (.slice ao L.length cp) L.length (Y1 L) from n7 HO4 B5)
 have HK5:=hid (show W5.heap[nb]?=some (.cells #[.int .i64 3,.string s,.int .i64 0,.slice ao L.length cp,.int .i64 p] 24 (0,0)) from (B5.out.block nb (by have:=hb4'.out; omega)).trans HK4)
 have hbase5:=hid (show base≤W5.heap.size by have:=hb4'.out; have:=hz5.out; omega)
 have HF:=hid (show ∀ w6,W5.grownBy w6 (Value.slice ao L.length cp).ownBlock→w6.heap[nb]?=some (.cells #[.int .i64 3,.string s,.int .i64 0,.slice ao L.length cp,.int .i64 p] 24 (0,0)) from fun w6 hg6 =>
  (hg6.block nb (by have:=hb4'.out; have:=hz5.out; omega) (fun e => by have:=(HOB.out nb e.symm).1; omega)).trans HK5)
 have HS5:=hid (show W5.cell? ⟨nb,3,none⟩=some (.slice ao L.length cp)∧(W5.cell? ⟨w3.heap.size,0,none⟩=some (.int .i64 T.kind)∧W5.cell? ⟨w3.heap.size,1,none⟩=some (.string ⟨T.text.toArray⟩)∧W5.cell? ⟨w3.heap.size,2,none⟩=some (.int .i64 T.n)∧W5.cell? ⟨w3.heap.size,3,none⟩=some (.int .i64 T.pos)) from ⟨by simp [World.cell?,HK5.out],(Q4.out.below B5).cells.1⟩)
 rw [← hW5]
 clear hW5
 refine hK.out _ _ ?_ (fun hHeld => ?_)
 ·exact HS5
 clear hK K
 try simp only [Act.put,c9,f8,f7]
 refine l6.nextZ (i:=9) (by kernel_rfl) (l3 rfl) (by kernel_rfl) (fun K hK => ?_)
 refine step_append_lies _ rfl _ _ 22 rfl base 24 i0 (.agg #[.int .i64 0,.string ⟨#[]⟩,.int .i64 0,.slice none 0 0,.int .i64 0]) 5 64 Tryz.underlying22 HI0.out.1 HI0.out.2.1 HI0.out.2.2.1 HI0.out.2.2.2 rfl (by decide) _ _ _ rfl O5 ⟨W4.heap.size,0,none⟩ 1 1 dF rfl rfl N5 qQ (by decide) (by unfold maxLen; omega) (by omega) hbase5 _ rfl ?_
 intro gb cap' w6 hown' hgrow' hat hltg
 have HO6:=hid hown'
 have HG6:=hid hgrow'
 have HAT:=hid hat
 have HN6:=hid (HF.out w6 hgrow')
 have hgb:=hid (HO6.out.lt gb rfl)
 obtain ⟨⟨s0,s1,s2,s3,s4⟩,⟨q0,q1,q2,q3,q4⟩⟩:=lG (U9 L) HO6
 have hgl:=hgb.out.2
 have hnl6 : nb<w6.heap.size:=(Array.getElem?_eq_some_iff.1 HN6).1
 have hn3 : w6.cell? ⟨nb,3,none⟩=some (.slice ao L.length cp):=by simp [World.cell?,HN6.out]
 have hf3 : w6.frozen? ⟨nb,3,none⟩=false:=by simp [World.frozen?,HN6.out]
 have hgn : ¬ gb=nb:=by have:=hgb.out; omega
 have hng : ¬ nb=gb:=fun e => hgn e.symm
 clear hown' hgrow' hat
 refine hK.out _ _ ?_
 clear hK K
 try simp only [Act.put,c9,f8,f7]
 refine l6.pure (i:=10) (v:=?_) (l3 rfl) (by kernel_rfl) (by kernel_rfl) (by kernel_rfl) (by kernel_rfl) (fun _ _ _ h => h) (Or.inl ⟨by rfl,?_⟩) ?_
 rotate_left
 ·(intro w hSw; go_simp; rw [if_pos (show (L.length : Int)<(L.length : Int) + 1 by omega)])
 try simp only [Act.put,c9,f8,f7]
 refine l6.pure (i:=12) (v:=?_) (l3 rfl) (by kernel_rfl) (by kernel_rfl) (by kernel_rfl) (by kernel_rfl) (fun _ _ _ h => h) (Or.inl ⟨by rfl,?_⟩) ?_
 rotate_left
 ·(intro w hSw; go_simp; try with_reducible rfl)
 try simp only [Act.put,c9,f8,f7]
 refine l6.twoZ (i:=11) (j:=13) (by kernel_rfl) (l3 rfl) (l3 rfl) (by kernel_rfl) (by kernel_rfl) (fun K hK => ?_) (fun K hK => ?_)
 ·go_simp
  refine hK.out _ _ ?_
  clear hK K
  try simp only [Act.put,c9,f8,f7]
  refine l6.nextZ (i:=13) (by kernel_rfl) (l3 rfl) (by kernel_rfl) (fun K hK => ?_)
  go_simp
  refine hK.out _ _ ?_
  clear hK K
  try simp only [Act.put,c9,f8,f7]
  refine l6.done (by kernel_rfl) ?_ _
  refine bodyPost_end (results_none rfl _ _ _) rfl ?_
  rw [HX2.out]
  exact iP (e:=(mkN 4 T.text 0 [] T.pos,none,0)) (w6:=w6) (k:=3) hP hk hp (b6 G3 (b8 B4)) (S3.out.below B4) HP4 hb4' HM HOB HL6 (rD HT0 (fun _ => False) _) (fun c hc => hc.elim) B5 HG6 HAT (by have:=hz5.out; omega) hgb (uN HN6 HO6 (U9 L) hgn (mkN 4 T.text 0 [] T.pos,none,0))
 ·go_simp
  refine hK.out _ _ ?_
  clear hK K
  try simp only [Act.put,c9,f8,f7]
  refine l6.nextZ (i:=11) (by kernel_rfl) (l3 rfl) (by kernel_rfl) (fun K hK => ?_)
  go_simp
  refine hK.out _ _ ?_
  clear hK K
  try simp only [Act.put,c9,f8,f7]
  refine l6.done (by kernel_rfl) ?_ _
  refine bodyPost_end (results_none rfl _ _ _) rfl ?_
  rw [HX2.out]
  exact iP (e:=(mkN 4 T.text 0 [] T.pos,none,0)) (w6:=w6) (k:=3) hP hk hp (b6 G3 (b8 B4)) (S3.out.below B4) HP4 hb4' HM HOB HL6 (rD HT0 (fun _ => False) _) (fun c hc => hc.elim) B5 HG6 HAT (by have:=hz5.out; omega) hgb (vA HN6 HO6 (U9 L) hgn (mkN 4 T.text 0 [] T.pos,none,0))
end
section
open Lib (hid)
open Go.RowKit
def NQ (P g cap : Nat) (ts : List Tk) (x : Rd) (w : World) (e : Ending) (w' : World) : Prop:=match x with
 | .ok (t,r) => ∃ (a : Option Addr) (cp : Nat),e=.returned (t.val a cp)∧SQ P g cap ts 0 r w'∧w.grownBy w' (some P)∧t.lies (Fr w.heap.size w'.heap.size) w' a cp
 | .error (k,p) => e=flt k p∧w.grownBy w' (some P)
theorem tG {r : List Tk} {t : Nd} {q : List Tk} (h : aU r=.ok (t,q)) : q.length≤r.length:=by
 unfold aU F0 at h
 split at h
 ·cases h; exact Y7 r
 ·cases h
theorem oC {rdr : List Tk→Rd} : ∀ (f : Nat) (acc : List Nd) (l : List Tk) (u : Nd) (q : List Tk),(∀ l t q,rdr l=.ok (t,q)→q.length≤l.length)→H5 rdr f acc l=.ok (u,q)→q.length≤l.length
 | 0,_,_,_,_,_,h => by rw [H5] at h; cases h
 | f + 1,acc,l,u,q,hr,h => by
   rw [H5] at h
   cases hx : rdr l with
   | error e => rw [hx] at h; cases h
   | ok p =>
     obtain ⟨t,r⟩:=p
     rw [hx] at h
     have h1:=hr l t r hx
     have h2:=Y7 r
     replace h : (if isT l0 r=true then H5 rdr f (acc ++ [t]) (b9 r) else d9 m5 r fun r => .ok (mkN 0 [] 0 (acc ++ [t]) 0,r))=.ok (u,q):=h
     split at h
     ·have:=oC f _ _ _ _ hr h; omega
     ·unfold d9 at h
      split at h
      ·cases h; omega
      ·cases h
theorem xT (t : Nd) (a : Option Addr) (c : Nat) (w : World) : (Instr.field 50 (.agg #[.int .i64 t.kind,.string t.text,.int .i64 t.n,.slice a t.kids.length c,.int .i64 t.place,.int .i64 (c8 t)]) 0).run Tryz.prog w=.ok (.agg #[.int .i64 t.kind,.string t.text,.int .i64 t.n,.slice a t.kids.length c,.int .i64 t.place]) w:=by kernel_rfl
theorem a1J {P g cap base nb rb : Nat} {ts : List Tk} {k p : Int} {s : List UInt8} {ks : List Nd} {L : List Ent} {ao : Option Addr} {cp : Nat} {r : List Tk} {w W : World} (hI : L.map (·.1)=ks∧W.heap[nb]?=some (.cells #[.int .i64 k,.string ⟨s.toArray⟩,.int .i64 0,.slice ao L.length cp,.int .i64 p] 24 (0,0))∧W.ownsRow base 24 5 (.slice ao L.length cp) L.length (Y1 L)∧∀ e∈L,e.1.lies (fun c => base≤c∧c<W.heap.size∧(Value.slice ao L.length cp).ownBlock≠some c) W e.2.1 e.2.2)
 (hs : SQ P g cap ts 0 r W) (hg : w.grownBy W (some P)) (_hb : base≤W.heap.size) (hk : (Lit.int .i64 k).wf=true∧s.length≤16384∧(Lit.int .i64 p).wf=true) (h1 : w.heap.size≤rb∧rb<base) (_h2 : w.heap.size≤base) (h3 : rb≠P∧rb≠g) :
 NQ P g cap ts (.ok (mkN k s 0 ks p,r)) w (.returned ((mkN k s 0 ks p).val ao cp)) (V6 W rb (mkN k s 0 ks p) ao cp):=by
 obtain ⟨i1,i2,i3,i4⟩:=hI
 have hput:=jN (b:=rb) W (mkN k s 0 ks p) ao cp
 have hsz:=L8 W rb (mkN k s 0 ks p) ao cp
 have key : Nd.lie (fun c => base≤c∧c<W.heap.size) W ks ao 0∧ks.length≤cp∧cp≤maxLen:=by
  have hlt:=i3.lt
  rw [← i1]
  rcases i3.2 with ⟨e,h0⟩ | ⟨g',cap',cur,e,hg',-,q1,q2,-⟩
  ·obtain ⟨rfl,-,rfl⟩:=Value.slice.inj e
   have : L=[]:=List.length_eq_zero_iff.1 h0
   subst this
   exact ⟨trivial,Nat.le_refl _,Nat.zero_le _⟩
  ·obtain ⟨rfl,-,rfl⟩:=Value.slice.inj e
   exact ⟨vM i3 (hlt g' rfl) fun e he => d5 (i4 e he) (j0.refl _ _) fun c hc => ⟨hc.1,hc.2.1⟩,by rw [List.length_map]; exact q1,q2⟩
 have hl : (mkN k s 0 ks p).lies (fun c => base≤c∧c<W.heap.size) W ao cp:=Nd.lies.mk' hk.1 (by show s.toArray.size≤maxLen; unfold maxLen; have:=hk.2.1; simp; omega) rfl hk.2.2 key.2.1 key.2.2 key.1
 refine ⟨ao,cp,rfl,hs.keeps (fun c hc => ?_) hput.size,dP hg hput h1.1,d5 hl (fun c hc => hput.block c hc.2 (fun e => by have:=Option.some.inj e; have:=hc.1; omega)) fun c hc => ⟨by have:=hc.1; omega,by rw [hsz]; exact hc.2⟩⟩
 have hbl:=hs.blocks
 rcases hc with rfl | rfl
 ·exact hput.block _ hbl.1 (fun e => h3.1 (Option.some.inj e).symm)
 ·exact hput.block _ hbl.2.1 (fun e => h3.2 (Option.some.inj e).symm)
theorem a4l (P g cap : Nat) (ts : List Tk) (he : y7 ts) (htk : ∀ t∈ts,z8 t) (l : List Tk) : ∀ w,SQ P g cap ts 0 l w→Calls Tryz.prog 67 #[.pointer (some ⟨P,0,none⟩)] w (NQ P g cap ts (wL l) w):=by
 intro w h
 obtain ⟨i0,hi,hz0,hz1,hz2⟩:=info_parts (show (Tryz.prog.info? 24).map (fun i => (i.zero,i.size,i.bytes))=some (some (.agg #[.int .i64 0,.string ⟨#[]⟩,.int .i64 0,.slice none 0 0,.int .i64 0]),5,64) by kernel_rfl)
 have HI0:=hid (show _∧_∧_∧_ from ⟨hi,hz0,hz1,hz2⟩)
 clear hi hz0 hz1 hz2
 have HB:=hid h.blocks
 have HE:=hid he
 have HTK:=hid htk
 obtain ⟨X,hX⟩ : ∃ X,X=wL l:=⟨_,rfl⟩
 rw [← hX]
 rw [show wL l=d9 gK l fun r => F0 1 r fun t r => (X8 r).then fun ps r => d9 tEq r fun r => (rd .expr 0 r).then fun x r => d9 t8 r fun r => .ok (mkN 3 t.text 0 (ps.kids ++ [x]) t.pos,r) from rfl] at hX
 have HX:=hid hX
 obtain ⟨W1,hW1⟩ : ∃ W,W=w.alloc (.cells #[.pointer (some ⟨P,0,none⟩)] 48):=⟨_,rfl⟩
 have B1:=hid (show Below w.heap.size w W1 from hW1 ▸ c6 _ _)
 have hz1:=hid (show W1.heap.size=w.heap.size + 1 by rw [hW1]; simp)
 have hp1:=hid (show W1.cell? ⟨w.heap.size,0,none⟩=some (.pointer (some ⟨P,0,none⟩)) by rw [hW1]; simp)
 obtain ⟨W2,hW2⟩ : ∃ W,W=W1.alloc (.cells #[.int .i64 0,.string ⟨#[]⟩,.int .i64 0,.slice none 0 0,.int .i64 0] 24):=⟨_,rfl⟩
 have B2':=hid (show Below W1.heap.size W1 W2 from hW2 ▸ c6 _ _)
 have B2:=hid (B1.out.trans (B2'.out.mono B1.out.size))
 have hz2:=hid (show W2.heap.size=w.heap.size + 2 by rw [hW2]; simp [hz1.out])
 have Z2:=hid (show f6 (w.heap.size + 1) nd0 none 0 W2 from hW2 ▸ (show w.heap.size + 1=W1.heap.size by rw [hz1.out]) ▸ f6.make W1 nd0 none 0)
 have HC:=hid (show ∀ W : World,W2.grownBy W (some P)→W.cell? ⟨w.heap.size,0,none⟩=some (.pointer (some ⟨P,0,none⟩))∧f6 (w.heap.size + 1) nd0 none 0 W from fun W hg =>
  ⟨(World.cell?_of_block (hg.block w.heap.size (by have:=hz2.out; omega) (fun e => by have:=Option.some.inj e; have:=HB.out; omega))).trans ((B2'.out.cell (p:=⟨w.heap.size,0,none⟩) (by show w.heap.size<W1.heap.size; rw [hz1.out]; omega)).trans hp1),Z2.out.grown hg (by have:=HB.out; omega)⟩)
 have S2:=hid (h.below B2)
 have G2:=hid (show w.grownBy W2 (some P) from b8 B2)
 have hp2:=(HC.out W2 (b8 (Below.refl _ _))).1
 clear h he htk hX
 go_enter Tryz.func67,Tryz.ntmps67
 go_upto_region 1 with fail
 rw [← hW1,← hW2]
 clear hW1 hW2
 have C3:=hid (show Calls Tryz.prog 53 #[.pointer (some ⟨P,0,none⟩),.string ⟨#[108,101,116]⟩] W2 (eR P g cap ts 0 gK l W2) from V0 P g cap ts 0 l ⟨#[108,101,116]⟩ gK rfl W2 S2 HE)
 go_wp2_with fail
 (with_reducible refine Calls.mono C3.out ?_)
 rintro e w3 ⟨hg,hq⟩
 have H3:=hid hg
 have G3:=hid (show w.grownBy w3 (some P) from b6 G2 hg)
 cases hw3 : isT gK l
 case false =>
  obtain rfl:=hq.2 hw3
  refine And.intro rfl ?_
  rw [HX.out,X9 hw3]
  exact ⟨rfl,G3⟩
 case true =>
 obtain ⟨rfl,hs⟩:=hq.1 hw3
 have S3:=hid hs
 have HX3:=hid (show X=F0 1 (b9 l) fun t r => (X8 r).then fun ps r => d9 tEq r fun r => (rd .expr 0 r).then fun x r => d9 t8 r fun r => .ok (mkN 3 t.text 0 (ps.kids ++ [x]) t.pos,r) from HX.out.trans (L7 hw3))
 have hl3:=hid (n5 hw3)
 clear hs hg hq hw3 C3
 have hp3:=(HC.out w3 H3).1
 have HT0:=hid (HTK.out _ S3.out.mem)
 have C4:=hid (dS P g cap ts 0 (b9 l) 1 w3 S3 HE)
 obtain ⟨T,hT⟩ : ∃ T,T=hd (b9 l):=⟨_,rfl⟩
 have HX4:=hid (show X=goX (X4 1 (.ok (b9 l))) (fun r => (X8 r).then fun ps r => d9 tEq r fun r => (rd .expr 0 r).then fun x r => d9 t8 r fun r => .ok (mkN 3 T.text 0 (ps.kids ++ [x]) T.pos,r)) from
  HX3.out.trans (eO (.ok (b9 l)) 1 (fun t r => (X8 r).then fun ps r => d9 tEq r fun r => (rd .expr 0 r).then fun x r => d9 t8 r fun r => .ok (mkN 3 t.text 0 (ps.kids ++ [x]) t.pos,r)) T (fun r h => by cases h; exact hT)))
 rw [← hT] at C4 HT0
 have HLK:=hid (show ∀ r,X4 1 (.ok (b9 l))=.ok r→r.length + 1=(b9 l).length from fun r h => by
  obtain ⟨r',h1,h2,rfl⟩:=pK h
  cases h1
  exact cZ h2 (by decide))
 generalize X4 1 (.ok (b9 l))=σ at C4 HX4 HLK
 clear hT hp2
 go_wp2_with fail
 (with_reducible refine Calls.mono C4.out ?_)
 intro e w4 hq
 cases σ with
 | error q =>
   obtain ⟨k0,p0⟩:=q
   obtain ⟨rfl,hg⟩:=hq
   refine And.intro rfl ?_
   rw [HX4.out]
   exact ⟨rfl,b6 G3 hg⟩
 | ok r1 =>
 obtain ⟨rfl,hs,hg⟩:=hq
 have HX5:=hid (show X=(X8 r1).then fun ps r => d9 tEq r fun r => (rd .expr 0 r).then fun x r => d9 t8 r fun r => .ok (mkN 3 T.text 0 (ps.kids ++ [x]) T.pos,r) from HX4)
 have hlk:=hid (HLK.out r1 rfl)
 have S4:=hid hs
 have H4:=hid (b6 H3 hg)
 clear hs hg C4 HX4 HLK hp3
 unfold tkV
 obtain ⟨W5,hW5⟩ : ∃ W,W=w4.alloc (.cells #[.int .i64 T.kind,.string ⟨T.text.toArray⟩,.int .i64 T.n,.int .i64 T.pos] 79):=⟨_,rfl⟩
 have B5:=hid (show Below w4.heap.size w4 W5 from hW5 ▸ c6 _ _)
 have hz5:=hid (show W5.heap.size=w4.heap.size + 1 by rw [hW5]; simp)
 have Q5:=hid (show QT w4.heap.size T W5 from hW5 ▸ QT.make w4 T)
 obtain ⟨⟨t0,t1,t2,t3⟩,-⟩:=Q5.out.cells
 have htl:=Q5.out.lt
 go_upto_region 3 with fail
 rw [← hW5]
 clear hW5
 obtain ⟨sb,hsb⟩ : ∃ sb : ByteArray,sb=⟨T.text.toArray⟩:=⟨_,rfl⟩
 obtain ⟨W6,hW6⟩ : ∃ W,W=W5.alloc (.cells #[.int .i64 3,.string sb,.int .i64 0,.slice none 0 0,.int .i64 T.pos] 24):=⟨_,rfl⟩
 have B6:=hid (show Below W5.heap.size W5 W6 from hW6 ▸ c6 _ _)
 have hz6:=hid (show W6.heap.size=W5.heap.size + 1 by rw [hW6]; simp)
 have K6:=hid (show W6.heap[W5.heap.size]?=some (.cells #[.int .i64 3,.string sb,.int .i64 0,.slice none 0 0,.int .i64 T.pos] 24 (0,0)) by rw [hW6]; show (W5.heap.push _)[W5.heap.size]?=_; simp)
 have B46:=hid (show Below w4.heap.size w4 W6 from B5.out.trans (B6.out.mono B5.out.size))
 have H6:=hid (b6 H4 (b8 B46))
 have S6:=hid (S4.out.below B46)
 have hp6:=(HC.out W6 H6).1
 have J6:=hid (show oD W6.heap.size W5.heap.size w.heap.size P 3 sb T.pos [] W6 from ⟨hp6,Nat.le_refl _,[],none,0,rfl,K6,World.ownsRow_nil _ _ _ _,fun e he => (by cases he)⟩)
 have hnum:=hid (show P<w.heap.size∧g<w.heap.size∧w.heap.size + 2≤w4.heap.size∧W5.heap.size=w4.heap.size + 1∧W6.heap.size=W5.heap.size + 1 from ⟨HB.out.1,HB.out.2.1,by have:=H4.out.size; have:=hz2.out; omega,hz5,hz6⟩)
 have G6:=hid (show w.grownBy W6 (some P) from b6 G2 H6)
 have C6:=hid (show Calls Tryz.prog 50 #[.pointer (some ⟨P,0,none⟩),.string ⟨#[40]⟩] W6 (fun e w' => e=.returned (.bool (isT o6 r1))∧Below W6.heap.size W6 w') from aO P g cap ts 0 r1 ⟨#[40]⟩ W6 S6)
 go_upto_region 4 with fail
 rw [← hsb,← hW6]
 have HSB:=hid hsb
 clear hW6 hsb t0 t1 t2 t3 htl
 obtain ⟨bo,hbo⟩ : ∃ b,b=isT o6 r1:=⟨_,rfl⟩
 rw [← hbo] at C6
 have HBO:=hid hbo
 clear hbo
 go_upto_if 15 with (with_reducible refine Calls.mono C6.out ?_; rintro e w7 ⟨rfl,hb⟩; have B7:=hid hb; clear hb)
 have J7:=hid (show oD W6.heap.size W5.heap.size w.heap.size P 3 sb T.pos [] w7 from ⟨(HC.out w7 (b6 H6 (b8 B7))).1,J6.out.2.grown (P:=P) (b8 B7) (by have:=hnum.out; omega) (by have:=hnum.out; omega)⟩)
 have S7:=hid (S6.out.below B7)
 have hp7:=J7.out.1
 go_cut [] from 16 (fun wx => ∃ (ps : Nd) (r : List Tk),Hid (X8 r1=.ok (ps,r)∧SQ P g cap ts 0 r wx∧oD W6.heap.size W5.heap.size w.heap.size P 3 sb T.pos ps.kids wx∧Gx P W5.heap.size W6.heap.size W6 wx∧r.length≤r1.length∧ps.kids.length≤8))
 case first =>
  cases bo
  ·go_wp2_with fail
   go_meet
   case rel =>
    exact ⟨mkN 0 [] 0 [] 0,r1,by show X8 r1=_; unfold X8; rw [← HBO.out,if_neg (by decide)],S7,J7,Gx.of (b8 B7),Nat.le_refl _,Nat.zero_le _⟩
  ·have eg : m7 98:=enters_of Tryz.func98 (by kernel_rfl) rfl
   have HLo:=hid (n5 HBO.out.symm)
   have C8:=hid (show Calls Tryz.prog 97 #[.pointer (some ⟨P,0,none⟩),.int .i64 8,.func (.func 98) #[] #[.pointer (some ⟨w.heap.size,0,none⟩),.pointer (some ⟨W5.heap.size,0,none⟩)]] w7 (a4P P g cap ts 0 W5.heap.size W6.heap.size (oD W6.heap.size W5.heap.size w.heap.size P 3 sb T.pos) (H5 aU 8 [] (b9 r1)) w7) from by
    have hnm:=hnum.out
    exact uG P g cap ts HE 0 r1 8 (by decide) 98 _ aU W5.heap.size W6.heap.size (oD W6.heap.size W5.heap.size w.heap.size P 3 sb T.pos) w7 eg
     (fun acc W W' hj hg => ⟨(World.cell?_of_block (hg.block w.heap.size (by have:=hj.2.1; omega) (fun e => by have:=Option.some.inj e; omega))).trans hj.1,hj.2.grown hg (by omega) (by omega)⟩) (fun r t q h => tG h)
     (fun acc r W hr ha hj hs hgx => a2f P g cap ts HE HTK 0 W6.heap.size W5.heap.size w.heap.size sb T.pos acc r W hs hj (by omega) (by omega) (by omega) (by omega)) S7 J7 HBO.out.symm)
   have HPs:=hid (show X8 r1=H5 aU 8 [] (b9 r1) by unfold X8; rw [← HBO.out,if_pos rfl])
   have HLR:=hid (fun u q (h : H5 aU 8 [] (b9 r1)=.ok (u,q)) => And.intro (lZ 8 [] _ u q h) (oC 8 [] _ u q (fun _ _ _ h => tG h) h))
   have HXp:=hid (show X=(H5 aU 8 [] (b9 r1)).then fun ps r => d9 tEq r fun r => (rd .expr 0 r).then fun x r => d9 t8 r fun r => .ok (mkN 3 T.text 0 (ps.kids ++ [x]) T.pos,r) by rw [HX5.out,HPs.out])
   generalize H5 aU 8 [] (b9 r1)=x at C8 HPs HLR HXp
   clear eg
   go_wp2_with fail
   (with_reducible refine Calls.mono C8.out ?_)
   intro e w8 hq
   obtain ⟨hgx,hq⟩:=hq
   cases x with
   | error q =>
     obtain ⟨k,p⟩:=q
     obtain rfl:=hq
     refine And.intro rfl ?_
     rw [HXp.out]
     exact ⟨rfl,((Gx.of (b8 B7)).trans hgx).grown G6 (by have:=hnum.out; omega) (by have:=hnum.out; omega)⟩
   | ok q =>
   obtain ⟨u,q⟩:=q
   obtain ⟨rfl,hs,hj⟩:=hq
   have HH:=hid (show SQ P g cap ts 0 q w8∧oD W6.heap.size W5.heap.size w.heap.size P 3 sb T.pos u.kids w8∧Gx P W5.heap.size W6.heap.size W6 w8 from ⟨hs,hj,(Gx.of (b8 B7)).trans hgx⟩)
   clear hs hj hgx C8
   go_wp2_with fail
   go_meet
   case rel =>
    have h1:=HLR.out u q rfl
    exact ⟨u,q,HPs,HH.out.1,HH.out.2.1,HH.out.2.2,by have:=h1.2; have:=HLo.out; omega,h1.1⟩
 case rest =>
 obtain ⟨ps,r2,HCUT⟩:=hcut
 have HX6:=hid (show X=d9 tEq r2 fun r => (rd .expr 0 r).then fun x r => d9 t8 r fun r => .ok (mkN 3 T.text 0 (ps.kids ++ [x]) T.pos,r) by rw [HX5.out,HCUT.out.1]; rfl)
 have S8:=hid HCUT.out.2.1
 have J8:=hid HCUT.out.2.2.1
 have GX8:=hid HCUT.out.2.2.2.1
 have hr2:=hid HCUT.out.2.2.2.2.1
 have hps:=hid HCUT.out.2.2.2.2.2
 have G8:=hid (show w.grownBy wc (some P) from GX8.out.grown G6 (by have:=hnum.out; omega) (by have:=hnum.out; omega))
 have hpc:=J8.out.1
 clear hp7 hp6
 have C9:=hid (show Calls Tryz.prog 53 #[.pointer (some ⟨P,0,none⟩),.string ⟨#[61]⟩] wc (eR P g cap ts 0 tEq r2 wc) from V0 P g cap ts 0 r2 ⟨#[61]⟩ tEq rfl wc S8 HE)
 go_wp2_with fail
 (with_reducible refine Calls.mono C9.out ?_)
 rintro e w9 ⟨hg,hq⟩
 have H9:=hid hg
 have G9:=hid (show w.grownBy w9 (some P) from b6 G8 hg)
 cases hw9 : isT tEq r2
 case false =>
  obtain rfl:=hq.2 hw9
  refine And.intro rfl ?_
  rw [HX6.out,X9 hw9]
  exact ⟨rfl,G9⟩
 case true =>
 obtain ⟨rfl,hs⟩:=hq.1 hw9
 have S9:=hid hs
 have HX9:=hid (show X=(rd .expr 0 (b9 r2)).then fun x r => d9 t8 r fun r => .ok (mkN 3 T.text 0 (ps.kids ++ [x]) T.pos,r) from HX6.out.trans (L7 hw9))
 have hl9:=hid (n5 hw9)
 clear hs hg hq hw9 C9
 have J9:=hid (show oD W6.heap.size W5.heap.size w.heap.size P 3 sb T.pos ps.kids w9 from ⟨(World.cell?_of_block (H9.out.block w.heap.size (by have:=GX8.out.size; have:=hnum.out; omega) (fun e => by have:=Option.some.inj e; have:=hnum.out; omega))).trans J8.out.1,J8.out.2.grown H9 (by have:=hnum.out; omega) (by have:=hnum.out; omega)⟩)
 have BD:=hid (show Below w9.heap.size w9 w9.drew from A7 (Below.refl _ _))
 have hp9:=J9.out.1
 obtain ⟨hb4,L,ao,cp,j3,j4,j5,j6⟩:=J9.out.2
 have HM:=hid j3
 have HK9:=hid j4
 have HO9:=hid j5
 have HL9:=hid j6
 have hb9:=hid hb4
 have hLl : L.length≤8:=by have:=hps.out; rw [← j3,List.length_map] at this; exact this
 have HOB:=hid (show ∀ d,(Value.slice ao L.length cp).ownBlock=some d→W6.heap.size≤d∧d<w9.heap.size from fun d hd => HO9.out.lt d hd)
 have HSx:=hid (show ∀ cur : World,cur.heap[W5.heap.size]?=some (.cells #[.int .i64 3,.string sb,.int .i64 0,.slice ao L.length cp,.int .i64 T.pos] 24 (0,0))→cur.cell? ⟨w.heap.size,0,none⟩=some (.pointer (some ⟨P,0,none⟩))→cur.cell? ⟨W5.heap.size,3,none⟩=some (.slice ao L.length cp)∧cur.cell? ⟨w.heap.size,0,none⟩=some (.pointer (some ⟨P,0,none⟩)) from fun cur h1 h2 => ⟨by simp [World.cell?,h1],h2⟩)
 have HPc:=hid hp9
 have CE:=hid (show ∀ W,SQ P g cap ts 0 (b9 r2) W→Calls Tryz.prog 25 #[.pointer (some ⟨P,0,none⟩)] W (QP P g cap ts 0 (rd .expr 0 (b9 r2)) W) from fun W hs => a11 P g cap ts HE HTK (b9 r2) 0 W (by decide) hs)
 generalize rd .expr 0 (b9 r2)=x at CE HX9
 clear hpc j3 j4 j5 j6 hb4
 go_upto_region 7 with fail
 go_cut [] from 21 (fun wx => ∃ (t : Nd) (r3 : List Tk),Hid (X=(d9 t8 r3 fun r => .ok (mkN 3 T.text 0 (ps.kids ++ [t]) T.pos,r))∧Gx P W5.heap.size W6.heap.size w9 wx∧SQ P g cap ts 0 r3 wx∧oD W6.heap.size W5.heap.size w.heap.size P 3 sb T.pos (ps.kids ++ [t]) wx))
 case first =>
  refine cR (S:=(fun cur => cur.cell? ⟨W5.heap.size,3,none⟩=some (.slice ao L.length cp)∧cur.cell? ⟨w.heap.size,0,none⟩=some (.pointer (some ⟨P,0,none⟩)))) (Z:=[7,8,9,10,11]) (by kernel_rfl) ?_ (fun hHeld => ?_)
  ·exact HSx.out _ HK9 HPc
  refine l6.take (i:=0) (v:=?_) (l3 rfl) (by kernel_rfl) (by kernel_rfl) (by kernel_rfl) (by kernel_rfl) (fun _ _ _ h => h) (Or.inl ⟨by rfl,?_⟩) (by assumption) ?_
  rotate_left
  ·(intro w hSw; (try dsimp only at hSw); go_simp; try with_reducible rfl)
  try simp only [Act.put,c9,f8,f7]
  refine l6.take (i:=1) (v:=?_) (l3 rfl) (by kernel_rfl) (by kernel_rfl) (by kernel_rfl) (by kernel_rfl) (fun _ _ _ h => h) (Or.inl ⟨by rfl,?_⟩) (by assumption) ?_
  rotate_left
  ·(intro w hSw; (try dsimp only at hSw); go_simp; try with_reducible rfl)
  try simp only [Act.put,c9,f8,f7]
  refine l6.take (i:=2) (v:=?_) (l3 rfl) (by kernel_rfl) (by kernel_rfl) (by kernel_rfl) (by kernel_rfl) (fun _ _ _ h => h) (Or.inl ⟨by rfl,?_⟩) (by assumption) ?_
  rotate_left
  ·(intro w hSw; (try dsimp only at hSw); go_simp; try with_reducible rfl)
  try simp only [Act.put,c9,f8,f7]
  refine l6.take (i:=5) (v:=?_) (l3 rfl) (by kernel_rfl) (by kernel_rfl) (by kernel_rfl) (by kernel_rfl) (fun _ _ _ h => h) (Or.inl ⟨by rfl,?_⟩) (by assumption) ?_
  rotate_left
  ·(intro w hSw; (try dsimp only at hSw); go_simp; try with_reducible rfl)
  try simp only [Act.put,c9,f8,f7]
  refine l6.two (i:=3) (j:=6) (by kernel_rfl) (l3 rfl) (l3 rfl) (fun K hK => ?_) (fun K hK => ?_)
  ·go_simp
   (with_reducible refine Calls.mono (CE.out w9.drew (S9.out.below BD.out)) ?_)
   intro e wa hq
   cases x with
   | error q =>
     obtain ⟨k0,p0⟩:=q
     obtain ⟨rfl,hg⟩:=hq
     refine And.intro rfl ?_
     rw [HX9.out]
     exact ⟨rfl,b6 G9 (b6 (b8 (r:=some P) BD) hg)⟩
   | ok q =>
   obtain ⟨t,r3⟩:=q
   obtain ⟨a,c,rfl,hs,hg,hl2,hdp⟩:=hq
   have HX10:=hid (show X=d9 t8 r3 fun r => .ok (mkN 3 T.text 0 (ps.kids ++ [t]) T.pos,r) from HX9)
   have Sa:=hid hs
   have Ga:=hid (show w9.grownBy wa (some P) from b6 (b8 (r:=some P) BD) hg)
   have Gp:=hid hg
   have HLt:=hid (show t.lies (Fr w9.heap.size wa.heap.size) wa a c from d5 hl2 (j0.refl _ _) fun d hd => ⟨Nat.le_trans ((b8 (r:=some P) BD)).size hd.1,hd.2⟩)
   have HKa:=hid (show wa.heap[W5.heap.size]?=some (.cells #[.int .i64 3,.string sb,.int .i64 0,.slice ao L.length cp,.int .i64 T.pos] 24 (0,0)) from (Ga.out.block _ (by have:=hb9.out; have:=hnum.out; omega) (fun e => by have:=Option.some.inj e; have:=hnum.out; omega)).trans HK9)
   have HPa:=hid (show wa.cell? ⟨w.heap.size,0,none⟩=some (.pointer (some ⟨P,0,none⟩)) from (World.cell?_of_block (Ga.out.block w.heap.size (by have:=hb9.out; have:=hnum.out; omega) (fun e => by have:=Option.some.inj e; have:=hnum.out; omega))).trans HPc)
   have Oa:=hid (show wa.ownsRow W6.heap.size 24 5 (.slice ao L.length cp) L.length (Y1 L) from HO9.out.kept Ga (by
    cases hv : (Value.slice ao L.length cp).ownBlock with
    | none => exact .inl rfl
    | some c => exact .inr (fun e => by have:=(HOB.out c hv).1; cases e; have:=hnum.out; omega)))
   have HLa:=hid (show ∀ e∈L,e.1.lies (fun c => W6.heap.size≤c∧c<wa.heap.size∧(Value.slice ao L.length cp).ownBlock≠some c) wa e.2.1 e.2.2 from fun e he => d5 (HL9.out e he) (fun d hd => Ga.out.block d hd.2.1 (fun e => by have:=Option.some.inj e; have:=hd.1; have:=hnum.out; omega)) fun d hd => ⟨hd.1,Nat.lt_of_lt_of_le hd.2.1 Ga.out.size,hd.2.2⟩)
   have hfd:=xT t a c
   clear hs hg hl2 hdp
   unfold trV
   go_wp2_with fail
   refine hK.out _ _ ?_ (fun hHeld => ?_)
   ·exact HSx.out _ HKa HPa
   clear hK K
   try simp only [Act.put,c9,f8,f7]
   refine l6.take (i:=4) (v:=?_) (l3 rfl) (by kernel_rfl) (by kernel_rfl) (by kernel_rfl) (by kernel_rfl) (fun _ _ _ h => h) (Or.inl ⟨by rfl,?_⟩) (by assumption) ?_
   rotate_left
   ·(intro w hSw; (try dsimp only at hSw); go_simp; try with_reducible rfl)
   try simp only [Act.put,c9,f8,f7]
   refine l6.next (i:=6) (by kernel_rfl) (l3 rfl) (fun K hK => ?_)
   go_simp
   obtain ⟨Wz,hWz⟩ : ∃ W,W=wa.alloc (.cells #[.int .i64 0,.string ⟨#[]⟩,.int .i64 0,.slice none 0 0,.int .i64 0] 24):=⟨_,rfl⟩
   have Bz:=hid (show Below wa.heap.size wa Wz from hWz ▸ c6 _ _)
   have N5:=hid (show ∀ i u,dF[i]?=some u→Wz.cell? ((⟨wa.heap.size,0,none⟩ : Addr).add i)=some u from hWz ▸ aW wa _ _ _ _ _ _)
   have O5:=hid (show Wz.ownsRow W6.heap.size 24 5 (.slice ao L.length cp) L.length (Y1 L) from n7 Oa Bz)
   have HK5:=hid (show Wz.heap[W5.heap.size]?=some (.cells #[.int .i64 3,.string sb,.int .i64 0,.slice ao L.length cp,.int .i64 T.pos] 24 (0,0)) from (Bz.out.block _ (Array.getElem?_eq_some_iff.1 HKa).1).trans HKa)
   have hbase5:=hid (show W6.heap.size≤Wz.heap.size from Nat.le_trans (Nat.le_trans hb9 Ga.out.size) Bz.out.size)
   have HPz:=hid ((Bz.out.cell (p:=⟨w.heap.size,0,none⟩) (by show w.heap.size<wa.heap.size; have:=hb9.out; have:=Ga.out.size; have:=hnum.out; omega)).trans HPa)
   rw [← hWz]
   clear hWz
   refine hK.out _ _ ?_ (fun hHeld => ?_)
   ·exact HSx.out _ HK5 HPz
   clear hK K
   try simp only [Act.put,c9,f8,f7]
   refine l6.nextZ (i:=7) (by kernel_rfl) (l3 rfl) (by kernel_rfl) (fun K hK => ?_)
   refine step_append_lies _ rfl _ _ 22 rfl W6.heap.size 24 i0 (.agg #[.int .i64 0,.string ⟨#[]⟩,.int .i64 0,.slice none 0 0,.int .i64 0]) 5 64 Tryz.underlying22 HI0.out.1 HI0.out.2.1 HI0.out.2.2.1 HI0.out.2.2.2 rfl (by decide) _ _ _ rfl O5 ⟨wa.heap.size,0,none⟩ 1 1 dF rfl rfl N5 qQ (by decide) (by unfold maxLen; omega) (by omega) hbase5 _ rfl ?_
   intro gb cap' w6 hown' hgrow' hat hltg
   have HO6:=hid hown'
   have HG6:=hid hgrow'
   have HAT:=hid hat
   have HN6:=hid (show w6.heap[W5.heap.size]?=some (.cells #[.int .i64 3,.string sb,.int .i64 0,.slice ao L.length cp,.int .i64 T.pos] 24 (0,0)) from (hgrow'.block _ (by have:=hbase5.out; have:=hnum.out; omega) (fun e => by have:=(HOB.out _ e.symm).1; have:=hnum.out; omega)).trans HK5)
   have hgb:=hid (HO6.out.lt gb rfl)
   obtain ⟨⟨s0,s1,s2,s3,s4⟩,⟨q0,q1,q2,q3,q4⟩⟩:=lG (U9 L) HO6
   have hgl:=hgb.out.2
   have hnl6 : W5.heap.size<w6.heap.size:=(Array.getElem?_eq_some_iff.1 HN6).1
   have hn3 : w6.cell? ⟨W5.heap.size,3,none⟩=some (.slice ao L.length cp):=by simp [World.cell?,HN6.out]
   have hf3 : w6.frozen? ⟨W5.heap.size,3,none⟩=false:=by simp [World.frozen?,HN6.out]
   have hgn : ¬ gb=W5.heap.size:=by have:=hgb.out; have:=hnum.out; omega
   have hng : ¬ W5.heap.size=gb:=fun e => hgn e.symm
   clear hown' hgrow' hat
   refine hK.out _ _ ?_
   clear hK K
   try simp only [Act.put,c9,f8,f7]
   refine l6.pure (i:=8) (v:=?_) (l3 rfl) (by kernel_rfl) (by kernel_rfl) (by kernel_rfl) (by kernel_rfl) (fun _ _ _ h => h) (Or.inl ⟨by rfl,?_⟩) ?_
   rotate_left
   ·(intro w hSw; go_simp; rw [if_pos (show (L.length : Int)<(L.length : Int) + 1 by omega)])
   try simp only [Act.put,c9,f8,f7]
   refine l6.pure (i:=10) (v:=?_) (l3 rfl) (by kernel_rfl) (by kernel_rfl) (by kernel_rfl) (by kernel_rfl) (fun _ _ _ h => h) (Or.inl ⟨by rfl,?_⟩) ?_
   rotate_left
   ·(intro w hSw; go_simp; try with_reducible rfl)
   try simp only [Act.put,c9,f8,f7]
   refine l6.twoZ (i:=9) (j:=11) (by kernel_rfl) (l3 rfl) (l3 rfl) (by kernel_rfl) (by kernel_rfl) (fun K hK => ?_) (fun K hK => ?_)
   ·go_simp
    refine hK.out _ _ ?_
    clear hK K
    try simp only [Act.put,c9,f8,f7]
    refine l6.nextZ (i:=11) (by kernel_rfl) (l3 rfl) (by kernel_rfl) (fun K hK => ?_)
    go_simp
    refine hK.out _ _ ?_
    clear hK K
    try simp only [Act.put,c9,f8,f7]
    refine l6.done (by kernel_rfl) ?_ _
    go_wp2_with fail
    go_meet
    case rel =>
     have hone:=iP (P:=P) (g:=g) (cap:=cap) (ts:=ts) (nest:=0) (base:=W6.heap.size) (nb:=W5.heap.size) (pb:=w.heap.size) (w:=w9) (W4:=wa) (q:=r3) (e:=(t,a,c)) (av:=Fr w9.heap.size wa.heap.size) (by have:=hnum.out; omega) (by have:=hnum.out; have:=HB.out; omega) (by have:=hnum.out; omega) Ga Sa HPa (Nat.le_trans hb9 Ga.out.size) HM (fun d hd => ⟨(HOB.out d hd).1,Nat.lt_of_lt_of_le (HOB.out d hd).2 Ga.out.size⟩) HLa HLt (fun d hd => ⟨Nat.le_trans hb9 hd.1,hd.2,fun e => by have:=(HOB.out d e).2; have:=hd.1; omega⟩) Bz HG6 HAT Bz.out.size hgb (uN HN6 HO6 (U9 L) hgn (t,a,c))
     exact ⟨t,r3,HX10,hone.1,hone.2.2.1,hone.2.2.2⟩
   ·go_simp
    refine hK.out _ _ ?_
    clear hK K
    try simp only [Act.put,c9,f8,f7]
    refine l6.nextZ (i:=9) (by kernel_rfl) (l3 rfl) (by kernel_rfl) (fun K hK => ?_)
    go_simp
    refine hK.out _ _ ?_
    clear hK K
    try simp only [Act.put,c9,f8,f7]
    refine l6.done (by kernel_rfl) ?_ _
    go_wp2_with fail
    go_meet
    case rel =>
     have hone:=iP (P:=P) (g:=g) (cap:=cap) (ts:=ts) (nest:=0) (base:=W6.heap.size) (nb:=W5.heap.size) (pb:=w.heap.size) (w:=w9) (W4:=wa) (q:=r3) (e:=(t,a,c)) (av:=Fr w9.heap.size wa.heap.size) (by have:=hnum.out; omega) (by have:=hnum.out; have:=HB.out; omega) (by have:=hnum.out; omega) Ga Sa HPa (Nat.le_trans hb9 Ga.out.size) HM (fun d hd => ⟨(HOB.out d hd).1,Nat.lt_of_lt_of_le (HOB.out d hd).2 Ga.out.size⟩) HLa HLt (fun d hd => ⟨Nat.le_trans hb9 hd.1,hd.2,fun e => by have:=(HOB.out d e).2; have:=hd.1; omega⟩) Bz HG6 HAT Bz.out.size hgb (vA HN6 HO6 (U9 L) hgn (t,a,c))
     exact ⟨t,r3,HX10,hone.1,hone.2.2.1,hone.2.2.2⟩
  ·go_simp
   obtain ⟨Wz,hWz⟩ : ∃ W,W=(w9.alloc (.cells #[.int .i64 0,.string ⟨#[]⟩,.int .i64 0,.slice none 0 0,.int .i64 0] 24)).drew:=⟨_,rfl⟩
   have Bz:=hid (show Below w9.heap.size w9 Wz from hWz ▸ A7 (c6 _ _))
   have Nz:=hid (show ∀ i u,dF[i]?=some u→Wz.cell? ((⟨w9.heap.size,0,none⟩ : Addr).add i)=some u from hWz ▸ aW w9 _ _ _ _ _ _)
   have hzz:=hid (show Wz.heap.size=w9.heap.size + 1 by rw [hWz]; show (w9.alloc _).heap.size=_; simp)
   have HKz:=hid (show Wz.heap[W5.heap.size]?=some (.cells #[.int .i64 3,.string sb,.int .i64 0,.slice ao L.length cp,.int .i64 T.pos] 24 (0,0)) from (Bz.out.block _ (Array.getElem?_eq_some_iff.1 HK9).1).trans HK9)
   have HPz:=hid ((Bz.out.cell (p:=⟨w.heap.size,0,none⟩) (by show w.heap.size<w9.heap.size; have:=hb9.out; have:=hnum.out; omega)).trans HPc)
   rw [← hWz]
   clear hWz
   refine hK.out _ _ ?_ (fun hHeld => ?_)
   ·exact HSx.out _ HKz HPz
   clear hK K
   try simp only [Act.put,c9,f8,f7]
   refine l6.next (i:=3) (by kernel_rfl) (l3 rfl) (fun K hK => ?_)
   go_simp
   (with_reducible refine Calls.mono (CE.out Wz (S9.out.below Bz.out)) ?_)
   intro e wa hq
   cases x with
   | error q =>
     obtain ⟨k0,p0⟩:=q
     obtain ⟨rfl,hg⟩:=hq
     refine And.intro rfl ?_
     rw [HX9.out]
     exact ⟨rfl,b6 G9 (b6 (b8 (r:=some P) Bz) hg)⟩
   | ok q =>
   obtain ⟨t,r3⟩:=q
   obtain ⟨a,c,rfl,hs,hg,hl2,hdp⟩:=hq
   have HX10:=hid (show X=d9 t8 r3 fun r => .ok (mkN 3 T.text 0 (ps.kids ++ [t]) T.pos,r) from HX9)
   have Sa:=hid hs
   have Ga:=hid (show w9.grownBy wa (some P) from b6 (b8 (r:=some P) Bz) hg)
   have Gp:=hid hg
   have HLt:=hid (show t.lies (Fr w9.heap.size wa.heap.size) wa a c from d5 hl2 (j0.refl _ _) fun d hd => ⟨Nat.le_trans ((b8 (r:=some P) Bz)).size hd.1,hd.2⟩)
   have HKa:=hid (show wa.heap[W5.heap.size]?=some (.cells #[.int .i64 3,.string sb,.int .i64 0,.slice ao L.length cp,.int .i64 T.pos] 24 (0,0)) from (Ga.out.block _ (by have:=hb9.out; have:=hnum.out; omega) (fun e => by have:=Option.some.inj e; have:=hnum.out; omega)).trans HK9)
   have HPa:=hid (show wa.cell? ⟨w.heap.size,0,none⟩=some (.pointer (some ⟨P,0,none⟩)) from (World.cell?_of_block (Ga.out.block w.heap.size (by have:=hb9.out; have:=hnum.out; omega) (fun e => by have:=Option.some.inj e; have:=hnum.out; omega))).trans HPc)
   have Oa:=hid (show wa.ownsRow W6.heap.size 24 5 (.slice ao L.length cp) L.length (Y1 L) from HO9.out.kept Ga (by
    cases hv : (Value.slice ao L.length cp).ownBlock with
    | none => exact .inl rfl
    | some c => exact .inr (fun e => by have:=(HOB.out c hv).1; cases e; have:=hnum.out; omega)))
   have HLa:=hid (show ∀ e∈L,e.1.lies (fun c => W6.heap.size≤c∧c<wa.heap.size∧(Value.slice ao L.length cp).ownBlock≠some c) wa e.2.1 e.2.2 from fun e he => d5 (HL9.out e he) (fun d hd => Ga.out.block d hd.2.1 (fun e => by have:=Option.some.inj e; have:=hd.1; have:=hnum.out; omega)) fun d hd => ⟨hd.1,Nat.lt_of_lt_of_le hd.2.1 Ga.out.size,hd.2.2⟩)
   have hfd:=xT t a c
   clear hs hg hl2 hdp
   unfold trV
   go_wp2_with fail
   refine hK.out _ _ ?_ (fun hHeld => ?_)
   ·exact HSx.out _ HKa HPa
   clear hK K
   try simp only [Act.put,c9,f8,f7]
   refine l6.take (i:=4) (v:=?_) (l3 rfl) (by kernel_rfl) (by kernel_rfl) (by kernel_rfl) (by kernel_rfl) (fun _ _ _ h => h) (Or.inl ⟨by rfl,?_⟩) (by assumption) ?_
   rotate_left
   ·(intro w hSw; (try dsimp only at hSw); go_simp; try with_reducible rfl)
   try simp only [Act.put,c9,f8,f7]
   have O5:=hid Oa
   have HK5:=hid HKa
   have hbase5:=hid (show W6.heap.size≤wa.heap.size from Nat.le_trans hb9 Ga.out.size)
   have N5:=hid (show ∀ i u,dF[i]?=some u→wa.cell? ((⟨w9.heap.size,0,none⟩ : Addr).add i)=some u from fun i u hu => by
    have:=Nz.out i u hu
    rw [Go.WideShapes.add_plain] at this ⊢
    exact (World.cell?_of_block (Gp.out.block w9.heap.size (by have:=hzz.out; omega) (fun e => by have:=Option.some.inj e; have:=hb9.out; have:=hnum.out; omega))).trans this)
   refine l6.nextZ (i:=7) (by kernel_rfl) (l3 rfl) (by kernel_rfl) (fun K hK => ?_)
   refine step_append_lies _ rfl _ _ 22 rfl W6.heap.size 24 i0 (.agg #[.int .i64 0,.string ⟨#[]⟩,.int .i64 0,.slice none 0 0,.int .i64 0]) 5 64 Tryz.underlying22 HI0.out.1 HI0.out.2.1 HI0.out.2.2.1 HI0.out.2.2.2 rfl (by decide) _ _ _ rfl O5 ⟨w9.heap.size,0,none⟩ 1 1 dF rfl rfl N5 qQ (by decide) (by unfold maxLen; omega) (by omega) hbase5 _ rfl ?_
   intro gb cap' w6 hown' hgrow' hat hltg
   have HO6:=hid hown'
   have HG6:=hid hgrow'
   have HAT:=hid hat
   have HN6:=hid (show w6.heap[W5.heap.size]?=some (.cells #[.int .i64 3,.string sb,.int .i64 0,.slice ao L.length cp,.int .i64 T.pos] 24 (0,0)) from (hgrow'.block _ (by have:=hbase5.out; have:=hnum.out; omega) (fun e => by have:=(HOB.out _ e.symm).1; have:=hnum.out; omega)).trans HK5)
   have hgb:=hid (HO6.out.lt gb rfl)
   obtain ⟨⟨s0,s1,s2,s3,s4⟩,⟨q0,q1,q2,q3,q4⟩⟩:=lG (U9 L) HO6
   have hgl:=hgb.out.2
   have hnl6 : W5.heap.size<w6.heap.size:=(Array.getElem?_eq_some_iff.1 HN6).1
   have hn3 : w6.cell? ⟨W5.heap.size,3,none⟩=some (.slice ao L.length cp):=by simp [World.cell?,HN6.out]
   have hf3 : w6.frozen? ⟨W5.heap.size,3,none⟩=false:=by simp [World.frozen?,HN6.out]
   have hgn : ¬ gb=W5.heap.size:=by have:=hgb.out; have:=hnum.out; omega
   have hng : ¬ W5.heap.size=gb:=fun e => hgn e.symm
   clear hown' hgrow' hat
   refine hK.out _ _ ?_
   clear hK K
   try simp only [Act.put,c9,f8,f7]
   refine l6.pure (i:=8) (v:=?_) (l3 rfl) (by kernel_rfl) (by kernel_rfl) (by kernel_rfl) (by kernel_rfl) (fun _ _ _ h => h) (Or.inl ⟨by rfl,?_⟩) ?_
   rotate_left
   ·(intro w hSw; go_simp; rw [if_pos (show (L.length : Int)<(L.length : Int) + 1 by omega)])
   try simp only [Act.put,c9,f8,f7]
   refine l6.pure (i:=10) (v:=?_) (l3 rfl) (by kernel_rfl) (by kernel_rfl) (by kernel_rfl) (by kernel_rfl) (fun _ _ _ h => h) (Or.inl ⟨by rfl,?_⟩) ?_
   rotate_left
   ·(intro w hSw; go_simp; try with_reducible rfl)
   try simp only [Act.put,c9,f8,f7]
   refine l6.twoZ (i:=9) (j:=11) (by kernel_rfl) (l3 rfl) (l3 rfl) (by kernel_rfl) (by kernel_rfl) (fun K hK => ?_) (fun K hK => ?_)
   ·go_simp
    refine hK.out _ _ ?_
    clear hK K
    try simp only [Act.put,c9,f8,f7]
    refine l6.nextZ (i:=11) (by kernel_rfl) (l3 rfl) (by kernel_rfl) (fun K hK => ?_)
    go_simp
    refine hK.out _ _ ?_
    clear hK K
    try simp only [Act.put,c9,f8,f7]
    refine l6.done (by kernel_rfl) ?_ _
    go_wp2_with fail
    go_meet
    case rel =>
     have hone:=iP (P:=P) (g:=g) (cap:=cap) (ts:=ts) (nest:=0) (base:=W6.heap.size) (nb:=W5.heap.size) (pb:=w.heap.size) (w:=w9) (W4:=wa) (q:=r3) (e:=(t,a,c)) (av:=Fr w9.heap.size wa.heap.size) (by have:=hnum.out; omega) (by have:=hnum.out; have:=HB.out; omega) (by have:=hnum.out; omega) Ga Sa HPa (Nat.le_trans hb9 Ga.out.size) HM (fun d hd => ⟨(HOB.out d hd).1,Nat.lt_of_lt_of_le (HOB.out d hd).2 Ga.out.size⟩) HLa HLt (fun d hd => ⟨Nat.le_trans hb9 hd.1,hd.2,fun e => by have:=(HOB.out d e).2; have:=hd.1; omega⟩) (Below.refl wa.heap.size wa) HG6 HAT (Below.refl wa.heap.size wa).size hgb (uN HN6 HO6 (U9 L) hgn (t,a,c))
     exact ⟨t,r3,HX10,hone.1,hone.2.2.1,hone.2.2.2⟩
   ·go_simp
    refine hK.out _ _ ?_
    clear hK K
    try simp only [Act.put,c9,f8,f7]
    refine l6.nextZ (i:=9) (by kernel_rfl) (l3 rfl) (by kernel_rfl) (fun K hK => ?_)
    go_simp
    refine hK.out _ _ ?_
    clear hK K
    try simp only [Act.put,c9,f8,f7]
    refine l6.done (by kernel_rfl) ?_ _
    go_wp2_with fail
    go_meet
    case rel =>
     have hone:=iP (P:=P) (g:=g) (cap:=cap) (ts:=ts) (nest:=0) (base:=W6.heap.size) (nb:=W5.heap.size) (pb:=w.heap.size) (w:=w9) (W4:=wa) (q:=r3) (e:=(t,a,c)) (av:=Fr w9.heap.size wa.heap.size) (by have:=hnum.out; omega) (by have:=hnum.out; have:=HB.out; omega) (by have:=hnum.out; omega) Ga Sa HPa (Nat.le_trans hb9 Ga.out.size) HM (fun d hd => ⟨(HOB.out d hd).1,Nat.lt_of_lt_of_le (HOB.out d hd).2 Ga.out.size⟩) HLa HLt (fun d hd => ⟨Nat.le_trans hb9 hd.1,hd.2,fun e => by have:=(HOB.out d e).2; have:=hd.1; omega⟩) (Below.refl wa.heap.size wa) HG6 HAT (Below.refl wa.heap.size wa).size hgb (vA HN6 HO6 (U9 L) hgn (t,a,c))
     exact ⟨t,r3,HX10,hone.1,hone.2.2.1,hone.2.2.2⟩
 case rest =>
 obtain ⟨t,r3,HC2⟩:=hcut
 have HX10:=hid HC2.out.1
 have GX10:=hid HC2.out.2.1
 have S10:=hid HC2.out.2.2.1
 have J10:=hid HC2.out.2.2.2
 have G10:=hid (show w.grownBy wc (some P) from GX10.out.grown G9 (by have:=hnum.out; omega) (by have:=hnum.out; omega))
 have hp10:=J10.out.1
 clear hp9
 have C11:=hid (show Calls Tryz.prog 53 #[.pointer (some ⟨P,0,none⟩),.string ⟨#[59]⟩] wc (eR P g cap ts 0 t8 r3 wc) from V0 P g cap ts 0 r3 ⟨#[59]⟩ t8 rfl wc S10 HE)
 go_wp2_with fail
 (with_reducible refine Calls.mono C11.out ?_)
 rintro e w11 ⟨hg,hq⟩
 have H11:=hid hg
 have G11:=hid (show w.grownBy w11 (some P) from b6 G10 hg)
 cases hw11 : isT t8 r3
 case false =>
  obtain rfl:=hq.2 hw11
  refine And.intro rfl ?_
  rw [HX10.out,X9 hw11]
  exact ⟨rfl,G11⟩
 case true =>
 obtain ⟨rfl,hs⟩:=hq.1 hw11
 have S11:=hid hs
 have HX11:=hid (show X=.ok (mkN 3 T.text 0 (ps.kids ++ [t]) T.pos,b9 r3) from HX10.out.trans (L7 hw11))
 have hl11:=hid (n5 hw11)
 clear hs hg hq hw11 C11
 have J11:=hid (J10.out.2.grown H11 (by have:=hnum.out; omega) (by have:=hnum.out; omega))
 obtain ⟨hb,L2,ao2,cp2,i3,i4,i5,i6⟩:=J11.out
 have hsz:=hid (show W6.heap.size≤w11.heap.size from hb)
 have HZ:=hid (show f6 (w.heap.size + 1) nd0 none 0 w11 from by
  have hn:=hnum.out
  have h1:=HCUT.out.2.2.2.1.size
  have h9:=H9.out.size
  have hx:=GX10.out.size
  have q1:=GX8.out.block (w.heap.size + 1) (by omega) (by omega) (by omega) (by omega)
  have q2:=H9.out.block (w.heap.size + 1) (by omega) (fun e => by have:=Option.some.inj e; omega)
  have q3:=GX10.out.block (w.heap.size + 1) (by omega) (by omega) (by omega) (by omega)
  have q4:=H11.out.block (w.heap.size + 1) (by omega) (fun e => by have:=Option.some.inj e; omega)
  exact q4.trans (q3.trans (q2.trans (q1.trans (HC.out W6 H6).2))))
 have HI:=hid (And.intro i3 (And.intro i4 (And.intro i5 i6)))
 have n0 : w11.cell? ⟨W5.heap.size,0,none⟩=some (.int .i64 3):=by simp [World.cell?,i4]
 have n1 : w11.cell? ⟨W5.heap.size,1,none⟩=some (.string sb):=by simp [World.cell?,i4]
 have n2 : w11.cell? ⟨W5.heap.size,2,none⟩=some (.int .i64 0):=by simp [World.cell?,i4]
 have n3 : w11.cell? ⟨W5.heap.size,3,none⟩=some (.slice ao2 L2.length cp2):=by simp [World.cell?,i4]
 have n4 : w11.cell? ⟨W5.heap.size,4,none⟩=some (.int .i64 T.pos):=by simp [World.cell?,i4]
 have hnl : W5.heap.size<w11.heap.size:=(Array.getElem?_eq_some_iff.1 i4).1
 obtain ⟨⟨z0,z1,z2,z3,z4⟩,⟨f0,f1,f2,f3,f4⟩⟩:=HZ.out.cells
 simp only [nd0,Nd.kind,Nd.text,Nd.n,Nd.kids,Nd.place,List.length_nil] at z0 z1 z2 z3 z4
 have hzl:=HZ.out.lt
 clear i3 i4 i5 i6 hb hp10
 go_wp2_with fail
 have hlen : L2.length=(ps.kids ++ [t]).length:=by rw [← HI.out.1,List.length_map]
 refine bodyPost_ret (v:=(mkN 3 T.text 0 (ps.kids ++ [t]) T.pos).val ao2 cp2) (by rw [hlen,HSB.out]; simp [results,Tryz.results67,go_sem,Nd.val,mkN,Nd.kind,Nd.text,Nd.n,Nd.kids,Nd.place,z0,z1,z2,z3,z4]) rfl ?_
 rw [HX11.out,hlen,HSB.out]
 exact a1J (base:=W6.heap.size) (nb:=W5.heap.size) (rb:=w.heap.size + 1) (HSB.out ▸ HI.out) S11 G11 hsz ⟨rfl,by have:=HT0.out.2.2; omega,HT0.out.2.1⟩ (by have:=hnum.out; omega) (by have:=hnum.out; omega) (by have:=HB.out; omega)
end
end Go.Proofs.YtibiccacafjjfaaGreatDoor
