/-
  Laws that the proof rests on.
-/
import Derived.Test.YtppcfebnaieciaaGreatDoorF17
import Derived.Test.YtppcfebnaieciaaGreatDoorF16
import Derived.Test.YtppcfebnaieciaaGreatDoorF09
import Derived.StringKeys
namespace Go.Proofs.YtppcfebnaieciaaGreatDoor
set_option maxRecDepth 100000
set_option maxHeartbeats 16000000
section
open Lib (hid)
open Go.RowKit Go.Maps Go.WideMaps
def pY (k p : Int) : Ending:=.panicked [{ v:=.iface 53 (.agg #[.int .i64 p,.int .i64 k]),recovered:=false }]
theorem I9 (k p : Int) (w : World) : Calls Tryz.prog 50 #[.int .i64 p,.int .i64 k] w fun e w' => e=pY k p∧w=w':=by
 go_enter Tryz.func50,Tryz.ntmps50
 go_wp2_with fail
 exact ⟨rfl,rfl,rfl⟩
def Av (B F : Nat) (b : Nat) : Prop:=b<B∧b≠F
def eC (av : Nat→Prop) (v : Value) (g : List UInt8→Option Sch) (w : World) : Prop:=∃ (b n : Nat) (f : Lit→Option Value),v=.map (some b)∧av b∧q7 9 b n f w∧n≤1000000∧∀ s,match g s with
 | none => f (.string s)=none
 | some d => ∃ v,f (.string s)=some v∧cU av w (some d) v
def dI (av : Nat→Prop) (v : Value) (g : List UInt8→Option Sht) (w : World) : Prop:=∃ (b n : Nat) (f : Lit→Option Value),v=.map (some b)∧av b∧q7 9 b n f w∧n≤1000000∧∀ s,match g s with
 | none => f (.string s)=none
 | some d => ∃ v,f (.string s)=some v∧eC av v (j4 d.defs) w
theorem eC.kept {av : Nat→Prop} {v : Value} {g : List UInt8→Option Sch} {w w' : World} (h : eC av v g w) (hk : ∀ b,av b→w'.heap[b]?=w.heap[b]?) : eC av v g w':=by
 obtain ⟨b,n,f,e,h1,h2,h3,h4⟩:=h
 refine ⟨b,n,f,e,h1,h2.kept (hk b h1),h3,fun s => ?_⟩
 have:=h4 s
 cases hg : g s with
 | none => rw [hg] at this; exact this
 | some d =>
   rw [hg] at this
   obtain ⟨v,e1,e2⟩:=this
   exact ⟨v,e1,e2.move hk fun _ h => h⟩
theorem dI.kept {av : Nat→Prop} {v : Value} {g : List UInt8→Option Sht} {w w' : World} (h : dI av v g w) (hk : ∀ b,av b→w'.heap[b]?=w.heap[b]?) : dI av v g w':=by
 obtain ⟨b,n,f,e,h1,h2,h3,h4⟩:=h
 refine ⟨b,n,f,e,h1,h2.kept (hk b h1),h3,fun s => ?_⟩
 have:=h4 s
 cases hg : g s with
 | none => rw [hg] at this; exact this
 | some d =>
   rw [hg] at this
   obtain ⟨v,e1,e2⟩:=this
   exact ⟨v,e1,e2.kept hk⟩
structure PEnv (E : Env7) (B F : Nat) (c : CM) (w : World) : Prop where
 sheets : dI (Av B F) c.m0 (j8 E.sheets) w
 defs : eC (Av B F) c.m1 (j4 E.defs) w
 built : eC (Av B F) c.m2 (j4 l6) w
 params : ∃ (b n : Nat) (f : Lit→Option Value),c.m3=.map (some b)∧Av B F b∧q7 9 b n f w∧∀ s,f (.string s)=(E.params.findIdx? fun p => p == s).map fun i => .int .i64 (i : Nat)
 env : Av B F 2∧Env w
structure Off (B F : Nat) (w w' : World) : Prop where
 os : w'.os=w.os
 tape : w'.tape=w.tape
 output : w'.output=w.output
 size : w.heap.size≤w'.heap.size
 block : ∀ b,Av B F b→w'.heap[b]?=w.heap[b]?
theorem Off.trans {B F : Nat} {w w' w'' : World} (h : Off B F w w') (k : Off B F w' w'') : Off B F w w'':=⟨k.os.trans h.os,k.tape.trans h.tape,k.output.trans h.output,Nat.le_trans h.size k.size,fun b hb => (k.block b hb).trans (h.block b hb)⟩
theorem Off.refl (B F : Nat) (w : World) : Off B F w w:=⟨rfl,rfl,rfl,Nat.le_refl _,fun _ _ => rfl⟩
theorem Off.of {B F : Nat} {w w' : World} (h : Below w.heap.size w w') (hB : B≤w.heap.size) : Off B F w w':=⟨h.os,h.tape,h.output,h.size,fun b hb => h.block b (Nat.lt_of_lt_of_le hb.1 hB)⟩
theorem Mv.off {B F : Nat} {c c' : CM} {kn : List (Option Int)} {w w' : World} (h : Mv F c c' w w') (hi : c.In B F kn w) : Off B F w w' :=
 ⟨h.os,h.tape,h.output,h.size,fun b hb => h.block b (Nat.lt_of_lt_of_le hb.1 hi.le) hb.2 (fun e => by have:=(hi.u_lt e).1; have:=hb.1; omega) (fun e => by have:=(hi.k_lt e).1; have:=hb.1; omega)⟩
theorem PEnv.off {E : Env7} {B F : Nat} {c c' : CM} {w w' : World} (h : PEnv E B F c w) (k : Off B F w w') (hm : c'.m0=c.m0∧c'.m1=c.m1∧c'.m2=c.m2∧c'.m3=c.m3) : PEnv E B F c' w':=by
 obtain ⟨m0,m1,m2,m3⟩:=hm
 obtain ⟨b,n,f,e,h1,h2,h3⟩:=h.params
 refine ⟨m0 ▸ h.sheets.kept k.block,m1 ▸ h.defs.kept k.block,m2 ▸ h.built.kept k.block,⟨b,n,f,m3.trans e,h1,h2.kept (k.block b h1),h3⟩,h.env.1,?_⟩
 obtain ⟨m,hm⟩:=h.env.2
 exact ⟨m,(World.cell?_of_block (k.block _ h.env.1)).trans hm⟩
theorem PEnv.below {E : Env7} {B F : Nat} {c : CM} {w w' : World} (h : PEnv E B F c w) (hb : Below w.heap.size w w') (hB : B≤w.heap.size) : PEnv E B F c w':=h.off (Off.of hb hB) ⟨rfl,rfl,rfl,rfl⟩
theorem dE : Keyed Tryz.prog 9:=string_keyed Tryz.underlying9
theorem qU (w : World) : (zeroValue 36).run Tryz.prog w=.ok (.agg #[.string ⟨#[]⟩,.slice none 0 0,.int .i64 0]) w:=by kernel_rfl
theorem wB (w : World) : (zeroValue 56).run Tryz.prog w=.ok (.map none) w:=by kernel_rfl
theorem bC {s : List UInt8} (h : s.length≤maxLen) : keyOf Tryz.prog 9 (.string (bsA s))=some (.string s):=keyOf_string_mk Tryz.underlying9 (s:=bsA s) (by simpa [bsA,ByteArray.size] using h)
theorem eC.look {av : Nat→Prop} {v : Value} {g : List UInt8→Option Sch} {w : World} (h : eC av v g w) {s : List UInt8} (hs : s.length≤maxLen) : ∃ (nm : ByteArray) (pa : Option Addr) (pn pc : Nat) (r : Int),(Instr.lookup 56 v (.string (bsA s)) true).run Tryz.prog w=.ok (.tuple #[.agg #[.string nm,.slice pa pn pc,.int .i64 r],.bool (g s).isSome]) w∧cU av w (g s) (.agg #[.string nm,.slice pa pn pc,.int .i64 r]):=by
 obtain ⟨b,n,f,rfl,-,h2,-,h4⟩:=h
 have hl:=(h2.look dE Tryz.underlying56 (qU w) (bC hs)).1
 have:=h4 s
 cases e : g s with
 | none =>
   rw [e] at this
   rw [show f (.string s)=none from this] at hl
   exact ⟨_,_,_,_,_,hl,rfl⟩
 | some d =>
   rw [e] at this
   obtain ⟨v,e1,e2⟩:=this
   rw [e1] at hl
   obtain ⟨pa,pc,rfl,e3⟩:=e2
   exact ⟨_,_,_,_,_,hl,pa,pc,rfl,e3⟩
theorem dI.look {av : Nat→Prop} {v : Value} {E : Env7} {w : World} (h : dI av v (j8 E.sheets) w) {s d : List UInt8} (hs : s.length≤maxLen) (hd : d.length≤maxLen) : ∃ (mv : Value) (nm : ByteArray) (pa : Option Addr) (pn pc : Nat) (r : Int),(Instr.lookup 55 v (.string (bsA s)) false).run Tryz.prog w=.ok mv w∧(Instr.lookup 56 mv (.string (bsA d)) true).run Tryz.prog w=.ok (.tuple #[.agg #[.string nm,.slice pa pn pc,.int .i64 r],.bool ((j8 E.sheets s).bind fun x => j4 x.defs d).isSome]) w∧cU av w ((j8 E.sheets s).bind fun x => j4 x.defs d) (.agg #[.string nm,.slice pa pn pc,.int .i64 r]):=by
 obtain ⟨b,n,f,rfl,-,h2,-,h4⟩:=h
 have hl:=(h2.look dE Tryz.underlying55 (wB w) (bC hs)).2
 have:=h4 s
 cases e : j8 E.sheets s with
 | none =>
   rw [e] at this
   rw [show f (.string s)=none from this] at hl
   exact ⟨.map none,_,_,_,_,_,hl,Maps.look_nil (w:=w) true dE Tryz.underlying56 (qU w) (bC hd),rfl⟩
 | some d' =>
   rw [e] at this
   obtain ⟨v,e1,e2⟩:=this
   rw [e1] at hl
   obtain ⟨nm,pa,pn,pc,r,h5,h6⟩:=e2.look hd
   exact ⟨v,nm,pa,pn,pc,r,hl,h5,h6⟩
def a5r (B F : Nat) (x : Option Sch) (w : World) (e : Ending) (w' : World) : Prop:=∃ (nm : ByteArray) (pa : Option Addr) (pn pc : Nat) (r : Int),e=.returned (.tuple #[.agg #[.string nm,.slice pa pn pc,.int .i64 r],.bool x.isSome])∧cU (Av B F) w' x (.agg #[.string nm,.slice pa pn pc,.int .i64 r])∧Below w.heap.size w w'
theorem CM.In.maps {B F : Nat} {c : CM} {kn : List (Option Int)} {w : World} (h : c.In B F kn w) : w.cell? ⟨F,0,none⟩=some c.m0∧w.cell? ⟨F,1,none⟩=some c.m1∧w.cell? ⟨F,2,none⟩=some c.m2∧w.cell? ⟨F,3,none⟩=some c.m3∧F<w.heap.size:=by
 have hb:=h.box
 unfold CM.box at hb
 exact ⟨by simp [World.cell?,hb],by simp [World.cell?,hb],by simp [World.cell?,hb],by simp [World.cell?,hb],Nat.lt_of_lt_of_le h.lt h.le⟩
def y5 (b : Nat) (nm : ByteArray) (pa : Option Addr) (pn pc : Nat) (r : Int) (w : World) : Prop:=w.heap[b]?=some (.cells #[.string nm,.slice pa pn pc,.int .i64 r] 36 (0,0))
theorem y5.cells {b : Nat} {nm : ByteArray} {pa : Option Addr} {pn pc : Nat} {r : Int} {w : World} (h : y5 b nm pa pn pc r w) : (w.cell? ⟨b,0,none⟩=some (.string nm)∧w.cell? ⟨b,1,none⟩=some (.slice pa pn pc)∧w.cell? ⟨b,2,none⟩=some (.int .i64 r))∧(w.frozen? ⟨b,0,none⟩=false∧w.frozen? ⟨b,1,none⟩=false∧w.frozen? ⟨b,2,none⟩=false)∧b<w.heap.size:=by
 have h' : w.heap[b]?=some (.cells #[.string nm,.slice pa pn pc,.int .i64 r] 36 (0,0)):=h
 refine ⟨⟨?_,?_,?_⟩,⟨?_,?_,?_⟩,(Array.getElem?_eq_some_iff.1 h').1⟩ <;> simp [World.cell?,World.frozen?,h']
theorem zP (l : List UInt8) : (Lib.cut l [46]).1.length≤l.length∧(Lib.cut l [46]).2.1.length≤l.length:=by
 unfold Lib.cut
 split <;> simp <;> omega
theorem y5.below {b : Nat} {nm : ByteArray} {pa : Option Addr} {pn pc : Nat} {r : Int} {w w' : World} (h : y5 b nm pa pn pc r w) (hb : Below w.heap.size w w') : y5 b nm pa pn pc r w':=(hb.block _ h.cells.2.2).trans h
def mM (w : World) (b : Nat) (nm : ByteArray) (pa : Option Addr) (pn pc : Nat) (r : Int) : World:=((w.setCell ⟨b,0,none⟩ (.string nm)).setCell ⟨b,1,none⟩ (.slice pa pn pc)).setCell ⟨b,2,none⟩ (.int .i64 r)
theorem y5.put {b : Nat} {nm : ByteArray} {pa : Option Addr} {pn pc : Nat} {r : Int} {w : World} (h : y5 b nm pa pn pc r w) (nm' : ByteArray) (pa' : Option Addr) (pn' pc' : Nat) (r' : Int) : y5 b nm' pa' pn' pc' r' (mM w b nm' pa' pn' pc' r'):=by
 have h' : w.heap[b]?=some (.cells #[.string nm,.slice pa pn pc,.int .i64 r] 36 (0,0)):=h
 exact j9 (j9 (j9 h' 0 _) 1 _) 2 _
theorem F9 {B b : Nat} {w W : World} (h : Below B w W) (hb : B≤b) (nm : ByteArray) (pa : Option Addr) (pn pc : Nat) (r : Int) : Below B w (mM W b nm pa pn pc r):=((h.setCell (p:=⟨b,0,none⟩) hb _).setCell (p:=⟨b,1,none⟩) hb _).setCell (p:=⟨b,2,none⟩) hb _
theorem mG {B F : Nat} {X : Option Sch} {w w2 W : World} {v : Value} (hv : cU (Av B F) w2 X v) (hB : B≤w.heap.size) (h2 : Below w.heap.size w w2) (hW : Below w.heap.size w W) : cU (Av B F) W X v :=
 hv.move (fun b hb => (hW.block b (Nat.lt_of_lt_of_le hb.1 hB)).trans (h2.block b (Nat.lt_of_lt_of_le hb.1 hB)).symm) fun _ h => h
theorem lQ {b : Nat} {nm : ByteArray} {pa : Option Addr} {pn pc : Nat} {r : Int} {W : World} (h : y5 b nm pa pn pc r W) (x : Bool) {tmps : Array Value} (h4 : tmps[4]?.getD undef=.pointer (some ⟨b,0,none⟩)) (h5 : tmps[5]?.getD undef=.bool x) :
 (results Tryz.f125 tmps).run Tryz.prog W=.ok (.tuple #[.agg #[.string nm,.slice pa pn pc,.int .i64 r],.bool x]) W:=by
 obtain ⟨⟨z0,z1,z2⟩,-⟩:=h.cells
 simp [results,Tryz.results125,go_sem,h4,h5,z0,z1,z2]
theorem qZ (E : Env7) (B F : Nat) (c : CM) (kn : List (Option Int)) (s : List UInt8) (w : World) (hi : c.In B F kn w) (h : PEnv E B F c w) (hs : s.length≤1000000) :
 Calls Tryz.prog 125 #[.pointer (some ⟨F,0,none⟩),.string (bsA s)] w (a5r B F (E8 E s) w):=by
 have hsz : (bsA s).size=s.length:=by simp [bsA,ByteArray.size]
 obtain ⟨W1,hW1⟩ : ∃ W,W=w.alloc (.cells #[.string ⟨#[]⟩,.slice none 0 0,.int .i64 0] 36):=⟨_,rfl⟩
 have B1:=hid (show Below w.heap.size w W1 from hW1 ▸ a7 _ _)
 have K1:=hid (show y5 w.heap.size ⟨#[]⟩ none 0 0 0 W1 by unfold y5; rw [hW1]; exact U6 _ _)
 have hB:=hi.le
 have HE:=hid (h.below B1 hB)
 have HI:=hid (hi.below B1)
 obtain ⟨m,hm⟩:=HE.out.env.2
 have HA:=hid (show ∀ b,Av B F b→b<W1.heap.size from fun b hb => by have:=hb.1; have:=B1.out.size; omega)
 have HC:=hid (show Calls Tryz.prog 48 #[.string (bsA s),.string ⟨#[46]⟩] W1 fun e w' => e=.returned (.tuple #[.string ⟨(Lib.cut s [46]).1.toArray⟩,.string ⟨(Lib.cut s [46]).2.1.toArray⟩,.bool (Lib.cut s [46]).2.2])∧Below W1.heap.size W1 w' from
  (Tryz.strings_Cut (bsA s) ⟨#[46]⟩ m W1 (by rw [hsz]; omega) hm).mono fun _ _ ⟨h1,n,h2⟩ => ⟨h1,h2 ▸ dZ W1 n⟩)
 have HM:=hid (show E8 E s=if (Lib.cut s [46]).2.2=true then (j8 E.sheets (Lib.cut s [46]).1).bind fun x => j4 x.defs (Lib.cut s [46]).2.1 else (j4 E.defs s).or (j4 l6 s) from rfl)
 have HL:=hid (show (Lib.cut s [46]).1.length≤maxLen∧(Lib.cut s [46]).2.1.length≤maxLen from by
  have:=zP s
  unfold maxLen; omega)
 have HSL:=hid (show s.length≤maxLen by unfold maxLen; omega)
 have hBW:=hid (show B≤w.heap.size from hB)
 generalize E8 E s=X at HM
 generalize (Lib.cut s [46]).1=p at HC HM HL
 generalize (Lib.cut s [46]).2.1=q at HC HM HL
 generalize (Lib.cut s [46]).2.2=far at HC HM
 clear hsz hi h hs hm hB
 go_enter Tryz.func125,Tryz.ntmps125
 go_upto_region 1 with fail
 rw [← hW1]
 clear hW1
 go_wp2_with fail
 (with_reducible refine Calls.mono HC.out ?_)
 rintro e w2 ⟨rfl,hb⟩
 have HB2:=hid (B1.out.trans (hb.mono B1.out.size))
 have K2:=hid (show y5 w.heap.size ⟨#[]⟩ none 0 0 0 w2 from (hb.block _ K1.out.cells.2.2).trans K1)
 have HE2:=hid (HE.out.below hb (by have:=hBW.out; have:=B1.out.size; omega))
 have HI2:=hid (HI.out.below hb)
 have HA2:=hid (show ∀ b,Av B F b→b<w2.heap.size from fun b h => Nat.lt_of_lt_of_le (HA.out b h) hb.size)
 clear hb HC HE HI K1 HA
 obtain ⟨⟨z0,z1,z2⟩,⟨y0,y1,y2⟩,hzl⟩:=K2.out.cells
 obtain ⟨f0,f1,f2,f3,hFl⟩:=HI2.out.maps
 cases far with
 | true =>
   obtain ⟨mv,nm,pa,pn,pc,r,hl1,hl2,hv⟩:=HE2.out.sheets.look HL.out.1 HL.out.2
   rw [← show X=(j8 E.sheets p).bind fun x => j4 x.defs q from HM.out] at hl2 hv
   have HV:=hid hv
   unfold bsA at hl1 hl2
   clear hv HM
   go_wp2_with fail
   refine bodyPost_ret (lQ ((K2.out.put nm pa pn pc r).below (a7 _ _)) X.isSome rfl rfl) rfl ?_
   have hb:=(F9 HB2 (Nat.le_refl _) nm pa pn pc r).alloc (F9 HB2 (Nat.le_refl _) nm pa pn pc r).size (.cells #[.string nm,.slice pa pn pc,.int .i64 r] 36)
   exact ⟨nm,pa,pn,pc,r,rfl,mG HV hBW HB2 hb,hb⟩
 | false =>
   obtain ⟨nm,pa,pn,pc,r,hl1,hv⟩:=HE2.out.defs.look HSL
   have HX:=hid (show X=(j4 E.defs s).or (j4 l6 s) from HM)
   have HV:=hid hv
   clear hv HM
   cases hd : j4 E.defs s with
   | some d =>
     rw [hd] at hl1 HX HV
     have HX2:=hid (show X=some d from HX)
     clear HX hd
     go_wp2_with fail
     refine bodyPost_ret (lQ ((K2.out.put nm pa pn pc r).below (a7 _ _)) true rfl rfl) rfl ?_
     have hb:=(F9 HB2 (Nat.le_refl _) nm pa pn pc r).alloc (F9 HB2 (Nat.le_refl _) nm pa pn pc r).size (.cells #[.string nm,.slice pa pn pc,.int .i64 r] 36)
     rw [HX2.out]
     exact ⟨nm,pa,pn,pc,r,rfl,mG HV hBW HB2 hb,hb⟩
   | none =>
     rw [hd] at hl1 HX HV
     have HX2:=hid (show X=j4 l6 s from HX)
     obtain ⟨e1,e2,e3⟩ : nm=⟨#[]⟩∧(pa=none∧pn=0∧pc=0)∧r=0:=by
      have:=HV.out
      have h:=congrArg Array.toList (Value.agg.inj this)
      simp at h
      exact ⟨h.1,h.2.1,h.2.2⟩
     obtain ⟨rfl,rfl,rfl⟩:=e2
     subst e1 e3
     clear HX hd HV
     obtain ⟨W3,hW3⟩ : ∃ W,W=w2.alloc (.cells #[.string ⟨#[]⟩,.slice none 0 0,.int .i64 0] 36):=⟨_,rfl⟩
     have B3:=hid (show Below w2.heap.size w2 W3 from hW3 ▸ a7 _ _)
     have hz23:=hid (show w.heap.size<w2.heap.size from hzl)
     have HE3:=hid (HE2.out.below B3 (by have:=hBW.out; have:=HB2.out.size; omega))
     have K3:=hid (K2.out.below B3)
     have K4:=hid (show y5 w2.heap.size ⟨#[]⟩ none 0 0 0 W3 by unfold y5; rw [hW3]; exact U6 _ _)
     have HB3:=hid (HB2.out.trans (B3.out.mono HB2.out.size))
     obtain ⟨-,-,g2,-,hFl3⟩:=(HI2.out.below B3).maps
     obtain ⟨nm,pa,pn,pc,r,hl3,hv⟩:=HE3.out.built.look HSL
     rw [← HX2.out] at hl3 hv
     have HV:=hid hv
     clear hv HX2 HE2 HE3
     go_upto_region 7 with fail
     rw [← hW3]
     obtain ⟨⟨k0,k1,k2⟩,⟨l0,l1,l2⟩,hkl⟩:=K4.out.cells
     clear hW3
     obtain ⟨W5,hW5⟩ : ∃ W,W=mM W3 w2.heap.size nm pa pn pc r:=⟨_,rfl⟩
     have K5:=hid (show y5 w2.heap.size nm pa pn pc r W5 from hW5 ▸ K4.out.put nm pa pn pc r)
     have HB5:=hid (show Below w.heap.size w W5 from hW5 ▸ F9 HB3 (by have:=hz23.out; omega) nm pa pn pc r)
     have B35:=hid (show Below w2.heap.size w2 W5 from hW5 ▸ F9 B3 (Nat.le_refl _) nm pa pn pc r)
     have KR:=hid (K2.out.below B35)
     unfold mM at hW5
     go_upto_region 8 with fail
     rw [← hW5]
     clear hW5 k0 k1 k2 l0 l1 l2 z0 z1 z2 y0 y1 y2
     obtain ⟨⟨k0,k1,k2⟩,⟨l0,l1,l2⟩,hkl⟩:=K5.out.cells
     obtain ⟨⟨z0,z1,z2⟩,⟨y0,y1,y2⟩,hzl⟩:=KR.out.cells
     go_wp2_with fail
     refine bodyPost_ret (lQ (KR.out.put nm pa pn pc r) X.isSome rfl rfl) rfl ?_
     have hb:=F9 HB5 (Nat.le_refl _) nm pa pn pc r
     exact ⟨nm,pa,pn,pc,r,rfl,mG HV hBW HB3 hb,hb⟩
end
section
open Lib (hid)
open Go.RowKit
theorem Off.low {B F n₀ : Nat} {w w' : World} (h : Off B F w w') (h1 : n₀≤B) (h2 : n₀≤F) : Below n₀ w w':=⟨h.os,h.tape,h.output,h.size,fun b hb => h.block b ⟨by omega,by omega⟩⟩
def l9 (B F : Nat) (c : CM) (φ : List Int) (n : Nat) (x : Ty Int) (w : World) (e : Ending) (w' : World) : Prop:=match x with
 | .error (k,p) => e=pY k p∧Off B F w w'
 | .ok (t,S') => ∃ (c' : CM) (kn' : List (Option Int)) (ro' rk' : Nat→Nat) (l : List Int) (y : Nat),e=.returned (.int .i64 (y : Nat))∧(φ ++ l)[y]?=some t∧Cls B F c' kn' ro' rk' S' (φ ++ l) w'∧Mv F c c' w w'∧V4 c c' w∧c'.up.length≤c.up.length + n
def lY (B F n₀ : Nat) (E : Env7) (t : Nd) : Prop:=∀ (a : Option Addr) (cap : Nat) (c : CM) (kn : List (Option Int)) (ro rk : Nat→Nat) (S φ : List Int) (w : World),t.hold n₀ w a cap→Cls B F c kn ro rk S φ w→PEnv E B F c w→(∀ i,i<E.params.length→φ[i]?=some (5 + (i : Int)))→c.up.length + 10 * i7 t≤900000 →
 Calls Tryz.prog 54 #[.pointer (some ⟨F,0,none⟩),.agg #[.int .i64 t.kind,.string t.text,.int .i64 t.n,.slice a t.kids.length cap,.int .i64 t.place]] w (l9 B F c φ (10 * i7 t) (g9 E t S) w)
def yU (B F : Nat) (c : CM) (φ : List Int) (n y : Nat) (x : Ty Unit) (w : World) (e : Ending) (w' : World) : Prop:=match x with
 | .error (k,p) => e=pY k p∧Off B F w w'
 | .ok (_,S') => ∃ (c' : CM) (kn' : List (Option Int)) (ro' rk' : Nat→Nat) (l : List Int),e=.returned (.int .i64 (y : Nat))∧Cls B F c' kn' ro' rk' S' (φ ++ l) w'∧Mv F c c' w w'∧V4 c c' w∧c'.up.length≤c.up.length + n
theorem cV : ∀ (ks : List Nd) (k : Nat) (h : k<ks.length),j7 (ks.take (k + 1))=j7 (ks.take k) + i7 ks[k]
 | a :: r,0,_ => by simp [j7]
 | a :: r,k + 1,h => by
   rw [List.take_succ_cons,List.take_succ_cons,j7,j7,cV r k (by simpa using h)]
   simp only [List.getElem_cons_succ]; omega
theorem fP : ∀ (ks : List Nd) (k : Nat),j7 (ks.take k)≤j7 ks
 | [],k => by simp
 | a :: r,0 => by simp [j7]
 | a :: r,k + 1 => by rw [List.take_succ_cons,j7,j7]; have:=fP r k; omega
theorem tK {E : Env7} {ks : List Nd} {k : Nat} (h : k<ks.length) {ts S : List Int} (hl : k<ts.length) : o4 E (ks.drop k) (ts.drop k) S=(g9 E ks[k] S).then fun t S => match cE S t ts[k] with
 | none => .error (115,ks[k].place)
 | some S => o4 E (ks.drop (k + 1)) (ts.drop (k + 1)) S:=by
 rw [List.drop_eq_getElem_cons h,List.drop_eq_getElem_cons hl,o4]
 rfl
theorem vE {E : Env7} {ks : List Nd} {k : Nat} (h : ¬ k<ks.length) {ts S : List Int} : o4 E (ks.drop k) ts S=.ok ((),S):=by
 rw [List.drop_of_length_le (by omega),o4]
structure KidI (B F : Nat) (E : Env7) (c0 : CM) (φ : List Int) (g b0 : Nat) (t : Nd) (a : Option Addr) (cap : Nat) (xs : List Nat) (w : World) (c : CM) (kn : List (Option Int)) (ro rk : Nat→Nat) (S l : List Int) (wr : World) : Prop where
 cls : Cls B F c kn ro rk S (φ ++ l) wr
 env : PEnv E B F c wr
 mv : Mv F c0 c w wr
 np : V4 c0 c w
 gA : s7 F c wr g
 bA : s7 F c wr b0
 box : c6 b0 t a cap wr
 all : ∀ j (hj : j<xs.length),wr.cell? ⟨g,j,none⟩=some (.int .i64 (xs[j] : Nat))
theorem KidI.move {B F : Nat} {E : Env7} {c0 : CM} {φ : List Int} {g b0 : Nat} {t : Nd} {a : Option Addr} {cap : Nat} {xs : List Nat} {w : World} {c : CM} {kn : List (Option Int)} {ro rk : Nat→Nat} {S l : List Int} {wr : World} (h : KidI B F E c0 φ g b0 t a cap xs w c kn ro rk S l wr)
 {c' : CM} {kn' : List (Option Int)} {ro' rk' : Nat→Nat} {S' l' : List Int} {wr' : World} (hc : Cls B F c' kn' ro' rk' S' (φ ++ l') wr') (hm : Mv F c c' wr wr') (hn : V4 c c' wr) :
 KidI B F E c0 φ g b0 t a cap xs w c' kn' ro' rk' S' l' wr' :=
 ⟨hc,h.env.off (hm.off h.cls.hin) hm.maps,h.mv.trans hm,h.np.trans hn h.mv.size,(h.gA.mv hm hn).1,(h.bA.mv hm hn).1,(h.bA.mv hm hn).2.trans h.box,fun j hj => (World.cell?_of_block (h.gA.mv hm hn).2).trans (h.all j hj)⟩
theorem uY {E : Env7} {ks : List Nd} {ts S : List Int} {x : Ty Int} {q : Int × Int} {f : Int→List Int→Ty Unit} (h : o4 E ks ts S=x.then f) (hx : x=.error q) : o4 E ks ts S=.error q:=by rw [h,hx]; rfl
theorem a2t (B F n₀ : Nat) (E : Env7) (t : Nd) (IH : ∀ k∈t.kids,lY B F n₀ E k) (h1 : n₀≤B) (h2 : n₀≤F) (a : Option Addr) (cap : Nat) (c : CM) (kn : List (Option Int)) (ro rk : Nat→Nat) (S φ ts : List Int) (xs : List Nat) (g cap2 : Nat) (w : World) (hh : t.hold n₀ w a cap) (hc : Cls B F c kn ro rk S φ w) (he : PEnv E B F c w)
 (hp : ∀ i,i<E.params.length→φ[i]?=some (5 + (i : Int))) (hs : c.up.length + 10 * j7 t.kids≤900000) (hxl : xs.length=t.kids.length + 1) (htl : ts.length=t.kids.length) (hx : ∀ i (hi : i<ts.length) (hi' : i<xs.length),φ[xs[i]]?=some ts[i]) (hg : s7 F c w g) (hcp : xs.length≤cap2∧cap2≤maxLen) (hall : ∀ j (hj : j<xs.length),w.cell? ⟨g,j,none⟩=some (.int .i64 (xs[j] : Nat))) :
 Calls Tryz.prog 123 #[.pointer (some ⟨F,0,none⟩),.agg #[.int .i64 t.kind,.string t.text,.int .i64 t.n,.slice a t.kids.length cap,.int .i64 t.place],.slice (some ⟨g,0,none⟩) (t.kids.length + 1) cap2] w (yU B F c φ (10 * j7 t.kids) (xs[t.kids.length]'(by omega)) (o4 E t.kids ts S) w):=by
 have hkc:=hh.bounds.2.2.2.2
 have hkl : t.kids.length≤9223372036854775806:=by have:=Nat.le_trans hcp.1 hcp.2; unfold maxLen at this; omega
 obtain ⟨W1,hW1⟩ : ∃ W,W=w.alloc (.cells #[.int .i64 t.kind,.string t.text,.int .i64 t.n,.slice a t.kids.length cap,.int .i64 t.place] 24):=⟨_,rfl⟩
 have B1:=hid (show Below w.heap.size w W1 from hW1 ▸ a7 _ _)
 have N1:=hid (show c6 w.heap.size t a cap W1 from hW1 ▸ c6.make w t a cap)
 have HH:=hid (show ∀ cur,Off B F w cur→t.hold n₀ cur a cap from fun cur hb => hh.below (hb.low h1 h2))
 have HI0:=hid (show KidI B F E c φ g w.heap.size t a cap xs w c kn ro rk S [] W1 from by
  refine ⟨by rw [List.append_nil]; exact hc.below B1,he.below B1 hc.hin.le,Mv.of B1,V4.refl _ _,hg.grown B1.out.size,hc.apart_new (Nat.le_refl _) N1.out.lt,N1,fun j hj => (B1.out.cell (p:=⟨g,j,none⟩) hg.1.1).trans (hall j hj)⟩)
 have HIH:=hid IH
 have HP:=hid hp
 have HX:=hid hx
 have HS:=hid hs
 have HXL:=hid hxl
 have HTL:=hid htl
 have HCP:=hid hcp
 have HB12:=hid (show n₀≤B∧n₀≤F from ⟨h1,h2⟩)
 have HWB:=hid (show B≤w.heap.size from hc.hin.le)
 have HOW:=hid (show c.In B F kn w∧∀ c' W,Mv F c c' w W→Off B F w W from ⟨hc.hin,fun c' W hm => hm.off hc.hin⟩)
 obtain ⟨y,hy⟩ : ∃ y,y=xs[t.kids.length]'(by omega):=⟨_,rfl⟩
 have HY:=hid (show xs[t.kids.length]?=some y by rw [hy,List.getElem?_eq_getElem])
 rw [← hy]
 obtain ⟨N,hN⟩ : ∃ N,N=t.kids.length + 1:=⟨_,rfl⟩
 have HN:=hid hN
 rw [← hN]
 have hN2 : t.kids.length<N:=by omega
 have hN3 : N≤9223372036854775807:=by omega
 clear hh IH hp hx hs hxl htl hcp hc he hg hall hkc hy hN h1 h2
 go_enter Tryz.func123,Tryz.ntmps123
 go_upto_region 1 with fail
 rw [← hW1]
 clear hW1
 obtain ⟨⟨n0,n1,n2,n3,n4⟩,-⟩:=N1.out.cells
 go_wp2_with fail
 clear n0 n1 n2 n3 n4
 obtain ⟨b0,hb0⟩ : ∃ b,b=w.heap.size:=⟨_,rfl⟩
 rw [← hb0]
 rw [← hb0] at HI0
 clear N1 hb0
 go_loopw [12] (fun i wr => ∃ (k : Nat),i=.int .i64 k∧k≤t.kids.length∧Hid (∃ c' kn' ro' rk' S' l',KidI B F E c φ g b0 t a cap xs w c' kn' ro' rk' S' l' wr∧c'.up.length≤c.up.length + 10 * j7 (t.kids.take k)∧o4 E (t.kids.drop k) (ts.drop k) S'=o4 E t.kids ts S)) (fun i _ => t.kids.length - (intOf i).toNat)
 case atStart => exact ⟨0,rfl,Nat.zero_le _,_,_,_,_,_,_,HI0,by omega,rfl⟩
 case round =>
  obtain ⟨k,rfl,hk,HH2⟩:=hrel
  clear HI0
  obtain ⟨c',kn',ro',rk',S',l',hI,hsz,hrun⟩:=HH2.out
  have HSZ:=hid hsz
  have HRUN:=hid hrun
  clear hsz hrun
  have HI:=hid hI
  clear hI HH2
  by_cases hlt : k<t.kids.length
  ·obtain ⟨kb,ko,ka,kc,A⟩:=(HH.out _ (HOW.out.2 _ _ HI.out.mv)).kid k hlt
   obtain ⟨rfl,hkb,c0,c1,c2,c3,c4,hkh⟩:=A
   have HKH:=hid hkh
   have hxk : k<xs.length:=by have:=HXL.out; omega
   have htk : k<ts.length:=by have:=HTL.out; omega
   obtain ⟨W4,hW4⟩ : ∃ W,W=wr.alloc (.cells #[.int .i64 t.kids[k].kind,.string t.kids[k].text,.int .i64 t.kids[k].n,.slice ka t.kids[k].kids.length kc,.int .i64 t.kids[k].place] 24):=⟨_,rfl⟩
   have B4:=hid (show Below wr.heap.size wr W4.drew from hW4 ▸ r8 (a7 _ _))
   have N4:=hid (show c6 wr.heap.size t.kids[k] ka kc W4.drew from hW4 ▸ c6.make wr t.kids[k] ka kc)
   have A4:=hid (HI.out.cls.apart_new (Nat.le_refl _) N4.out.lt)
   have HI4:=hid (HI.out.move (HI.out.cls.below B4) (Mv.of B4) (V4.refl _ _))
   have C:=hid (HIH.out t.kids[k] (List.getElem_mem hlt) ka kc c' kn' ro' rk' S' (φ ++ l') W4.drew (hkh.below (B4.out.mono (by have:=HB12.out; have:=HI.out.mv.size; have:=HWB.out; omega))) HI4.out.cls HI4.out.env (fun i hi => Z8 (HP.out i hi)) (by
    have q1:=HSZ.out
    have q2:=cV t.kids k hlt
    have q3:=fP t.kids (k + 1)
    have:=HS.out
    omega))
   have HR:=hid (HRUN.out.symm.trans (tK hlt htk))
   have cx:=HI4.out.all k hxk
   have hXk:=HX.out k htk hxk
   have HQ:=hid (show 10 * j7 (t.kids.take (k + 1))=10 * j7 (t.kids.take k) + 10 * i7 t.kids[k] by rw [cV t.kids k hlt]; omega)
   obtain ⟨y',hy'⟩ : ∃ y',xs[k]=y':=⟨_,rfl⟩
   have HXy:=hid hy'
   rw [hy'] at cx hXk
   clear hy'
   have HXk:=hid hXk
   clear hXk
   generalize hty : g9 E t.kids[k] S'=x at C HR
   have hgl:=HI4.out.gA.1.1
   have hcpl : N≤cap2:=by have:=HCP.out; have:=HXL.out; have:=HN.out; omega
   obtain ⟨⟨n0,n1,n2,n3,n4⟩,-⟩:=N4.out.cells
   have hzl:=N4.out.lt
   have hkN : k<N:=by omega
   have hFl:=HI4.out.cls.hin.cells.2.2
   generalize t.kids[k]=u at c0 c1 c2 c3 c4 hkh HKH hW4 N4 HQ C HR n0 n1 n2 n3 n4 hty
   clear hty hkh HKH HI
   go_upto_region 4 with fail
   rw [← hW4]
   clear hW4 c0 c1 c2 c3 c4
   refine wp_region_held_drew (S:=fun cur => cur.cell? ⟨g,k,none⟩=some (.int .i64 (y' : Nat))∧cur.cell? ⟨wr.heap.size,0,none⟩=some (.int .i64 u.kind)∧cur.cell? ⟨wr.heap.size,1,none⟩=some (.string u.text)∧cur.cell? ⟨wr.heap.size,2,none⟩=some (.int .i64 u.n)∧cur.cell? ⟨wr.heap.size,3,none⟩=some (.slice ka u.kids.length kc)∧cur.cell? ⟨wr.heap.size,4,none⟩=some (.int .i64 u.place)) (by kernel_rfl) ?_ (fun hHeld => ?_)
   ·exact ⟨cx,n0,n1,n2,n3,n4⟩
   refine a8 0 ?_; refine a8 1 ?_; refine a8 2 ?_; refine a8 3 ?_; refine a8 4 ?_; refine a8 6 ?_; refine a8 7 ?_; refine a8 8 ?_; refine a8 9 ?_
   refine wpAnyH_ready (rs:=[5]) (by kernel_rfl) (by simp) ?_
   refine AllReadyH.cons (r6 rfl) (fun K hK => ?_) AllReadyH.nil
   go_simp
   (with_reducible refine Calls.mono C.out ?_)
   intro e w6 hr
   cases x with
   | error q =>
     obtain ⟨k0,p0⟩:=q
     obtain ⟨rfl,hoff⟩:=hr
     have hk9:=uY HR rfl
     have ho:=(HI4.out.mv.off (HOW.out.1)).trans hoff
     exact And.intro rfl (show yU B F c φ (10 * j7 t.kids) y (o4 E t.kids ts S) w (pY k0 p0) w6 by rw [hk9]; exact ⟨rfl,ho⟩)
   | ok q =>
     obtain ⟨T,S2⟩:=q
     obtain ⟨c2,kn2,ro2,rk2,l2,z,rfl,hz,hcl,hm,hn,hs⟩:=hr
     rw [List.append_assoc] at hz hcl
     have HI6:=hid (HI4.out.move hcl hm hn)
     have A6:=hid (A4.out.mv hm hn)
     have N6:=hid (show c6 wr.heap.size u ka kc w6 from A6.out.2.trans N4)
     have HSZ6:=hid (show c2.up.length≤c.up.length + 10 * j7 (t.kids.take (k + 1)) by have:=HSZ.out; have:=HQ.out; omega)
     have cx6:=HI6.out.all k hxk
     rw [show xs[k]=y' from HXy.out] at cx6
     obtain ⟨⟨m0,m1,m2,m3,m4⟩,-⟩:=N6.out.cells
     have hy9 : (φ ++ (l' ++ l2))[y']?=some ts[k]:=Z8 HXk
     obtain ⟨hzl2,hze⟩:=List.getElem?_eq_some_iff.1 hz
     obtain ⟨hyl2,hye⟩:=List.getElem?_eq_some_iff.1 hy9
     have C2:=a04 B F c2 kn2 ro2 rk2 S2 (φ ++ (l' ++ l2)) z y' w6 hcl hzl2 hyl2
     rw [hze,hye] at C2
     have HC2:=hid C2
     clear hcl hm hn hs hz hzl2 hze hyl2 hye hy9 C2 C
     refine hK.out _ _ ⟨cx6,m0,m1,m2,m3,m4⟩ (fun hHeld => ?_)
     clear hK K
     try simp only [Act.put,j6,v6,v7]
     refine wpAnyH_ready (rs:=[10]) (by kernel_rfl) (by simp) ?_
     refine AllReadyH.cons (r6 rfl) (fun K hK => ?_) AllReadyH.nil
     go_simp
     (with_reducible refine Calls.mono HC2.out ?_)
     rintro e w7 ⟨c3,hl3,hp3,hm3,hx3⟩
     have hn3 : V4 c2 c3 w6:=fun a ha => .inl (hp3 ▸ ha)
     have A7:=hid (A6.out.1.mv hm3 hn3)
     have N7:=hid (show c6 wr.heap.size u ka kc w7 from A7.out.2.trans N6)
     have cx7 : w7.cell? ⟨g,k,none⟩=some (.int .i64 (y' : Nat)):=(World.cell?_of_block (HI6.out.gA.mv hm3 hn3).2).trans cx6
     obtain ⟨⟨q0,q1,q2,q3,q4⟩,-⟩:=N7.out.cells
     have hz7:=N7.out.lt
     cases hu : cE S2 T ts[k] with
     | none =>
       rw [hu] at hx3
       obtain rfl:=hx3
       have HK9:=hid (show o4 E t.kids ts S=.error (115,u.place) by
        rw [HR.out]
        show (match cE S2 T ts[k] with
         | none => (Except.error (115,u.place) : Ty Unit)
         | some S => o4 E (t.kids.drop (k + 1)) (ts.drop (k + 1)) S)=_
        rw [hu])
       have HO:=hid ((HI6.out.mv.off HOW.out.1).trans (hm3.off HI6.out.cls.hin))
       refine hK.out _ _ ⟨cx7,q0,q1,q2,q3,q4⟩ (fun hHeld => ?_)
       clear hK K hu hm3 hn3
       try simp only [Act.put,j6,v6,v7]
       refine a8 11 ?_
       refine wpAnyH_done (by kernel_rfl) ?_ _
       go_wp2_with fail
       (with_reducible refine Calls.mono (I9 115 u.place w7) ?_)
       rintro e w8 ⟨rfl,rfl⟩
       exact And.intro rfl (show yU B F c φ (10 * j7 t.kids) y (o4 E t.kids ts S) w (pY 115 u.place) w7 by rw [HK9.out]; exact ⟨rfl,HO⟩)
     | some S3 =>
       rw [hu] at hx3
       obtain ⟨rfl,ro3,rk3,hc3⟩:=hx3
       have HI7:=hid (HI6.out.move hc3 hm3 hn3)
       have HR7:=hid (show o4 E (t.kids.drop (k + 1)) (ts.drop (k + 1)) S3=o4 E t.kids ts S by
        rw [HR.out]
        show _=(match cE S2 T ts[k] with
         | none => (Except.error (115,u.place) : Ty Unit)
         | some S => o4 E (t.kids.drop (k + 1)) (ts.drop (k + 1)) S)
        rw [hu])
       have HSZ7:=hid (show c3.up.length≤c.up.length + 10 * j7 (t.kids.take (k + 1)) from hl3 ▸ HSZ6.out)
       refine hK.out _ _ ⟨cx7,q0,q1,q2,q3,q4⟩ (fun hHeld => ?_)
       clear hK K hu hm3 hn3 hc3 hl3 hp3
       try simp only [Act.put,j6,v6,v7]
       refine a8 11 ?_
       refine wpAnyH_done (by kernel_rfl) ?_ _
       go_wp2_with fail
       go_roundw
       case rel => exact ⟨k + 1,by go_num,by omega,_,_,_,_,_,_,HI7,HSZ7,HR7⟩
       case measure => simp [intOf]; omega
  ·have hke : k=t.kids.length:=by omega
   have hr9:=HRUN.out
   rw [vE hlt] at hr9
   have HR9:=hid hr9
   have HY9:=hid (show wr.cell? ⟨g,t.kids.length,none⟩=some (.int .i64 (y : Nat)) by
    obtain ⟨h1,h2⟩:=List.getElem?_eq_some_iff.1 HY
    have:=HI.out.all t.kids.length h1
    rwa [h2] at this)
   have cy:=HY9.out
   have HSZ9:=hid (show c'.up.length≤c.up.length + 10 * j7 t.kids by
    have:=HSZ.out
    have:=fP t.kids k
    omega)
   obtain ⟨⟨n0,n1,n2,n3,n4⟩,-⟩:=HI.out.box.cells
   have hbl:=HI.out.box.lt
   have hgl:=HI.out.gA.1.1
   clear hr9 hke
   go_wp2_with fail
   go_ret
   exact (show yU B F c φ (10 * j7 t.kids) y (o4 E t.kids ts S) w (.returned (.int .i64 (y : Nat))) wr by rw [← HR9.out]; exact ⟨c',kn',ro',rk',l',rfl,HI.out.cls,HI.out.mv,HI.out.np,HSZ9⟩)
end
end Go.Proofs.YtppcfebnaieciaaGreatDoor
