
/- Several texts in one: RngB, RngC, RngD, WalA, WalB. -/
import Derived.Test.YtmemlkmnhcealaaGreatRngA
import Derived.Deep.RegionHeld3
import Derived.Deep.RegionWith
set_option linter.unusedVariables false
set_option maxRecDepth 100000
set_option maxHeartbeats 4000000
namespace Go.Proofs.YtmemlkmnhcealaaGreat
open Value renaming int→O,pointer→Zs,slice→Zt
open IntKind renaming i64→Z
open Ending renaming returned→Zu
open Obj renaming cells→Zv
open Go.Proofs.Tryz renaming prog→Zw
open Go.RowKit Go.Shelf
open Lib(hid)
variable {s:BaySt} {l:List (Nat×Nat)} {xs:List Value} {B b base g n size:Nat} {T:Nat->Nat} {own:Nat->Prop} {e:TypeId} {v:Value} {A A' w:World}
attribute [local go_sem] Oper.semAt_some
theorem Znm:SliceOf Zw 229 308 2 16:=SliceOf.mk' (z:=.agg #[.int .i64 0,.int .i64 0]) Tryz.underlying229 (by decide) (by kernel_rfl) rfl
def spanCells(x:Nat×Nat):List Value:= [O Z (x.1:Int),O Z (x.2:Int)]
theorem Zmk(h:w.ownsRow base e size v n xs)(hn:0<n):
  ∃g cap,v=Zt (some ⟨g,0,none⟩) n cap/\base≤g:=by
 rcases h.2 with ⟨_,h0⟩|⟨g,cap,cur,hv,hb,_⟩
 ·omega
 ·exact⟨g,cap,hv,hb⟩
theorem Zig{W:World}{k:Nat}(h:W.ownsRow base e size v k xs):∀(j:Nat) (o:Obj),v.ownBlock=some j->W.heap[j]?=some o->o.isCells=true:=by
 intro j o hj ho;rcases h.2 with ⟨rfl,_⟩|⟨g,cap,cur,rfl,_,hgb,_⟩
 ·simp[Value.ownBlock]at hj
 ·have:g=j:=by simpa [Value.ownBlock]using hj
  subst this;rw[hgb]at ho;cases ho;rfl
theorem Zrn{S:Nat->Prop}{a b c:World}(h:Chg S a b)(hb:Below a.heap.size b c):Chg S a c:=
 ⟨hb.os.trans h.os,hb.tape.trans h.tape,hb.output.trans h.output,Zc h.size hb.size,fun k hk hs=>(hb.block k hk).trans (h.block k hk hs)⟩
def ApI(own:Nat->Prop)(w:World)(pre:List (Nat×Nat))(W:World):Prop:=
 ∃v,At W w.heap.size #[v] 229/\W.ownsRow (w.heap.size+1) 308 2 v pre.length (pre.flatMap spanCells)/\(v=Zt none 0 0↔pre= [])/\Chg own w W
def ApAx(own:Nat->Prop)(w:World)(sv:Value)(_l:Nat)(pre:List (Nat×Nat))(x:Nat×Nat)(a':Act)(W:World):Prop:=
 ApI own w pre W/\∃Bx,w.heap.size+1≤Bx/\At W Bx #[O Z (x.1:Int),O Z (x.2:Int)] 308/\
  a'={tmps:= #[Zt none 0 0,sv,Zs (some ⟨w.heap.size,0,none⟩),undef,Zt none 0 0,Zs (some ⟨Bx,0,none⟩),sv,encSpan x,undef,undef,undef,undef,undef],defers:= []}
theorem Zmi(h:Chg own w A)(hT:Turns own B A A')(hB:w.heap.size≤B):Chg own w A':=
 ⟨hT.os.trans h.os,hT.tape.trans h.tape,hT.output.trans h.output,Zc h.size hT.size,fun k hk hs=>
  (hT.block k (Zd hk h.size) (fun hs'=>by
   rcases hs' with hs'|⟨hs',_⟩
   ·exact hs hs'
   ·omega)).trans (h.block k hk hs)⟩
theorem ApI.turns{pre:List (Nat×Nat)}(h:ApI own w pre A)(hT:Turns own B A A')(hB:w.heap.size≤B)(ho:∀k,own k->k<w.heap.size):ApI own w pre A':=by
 obtain⟨v,h1,h2,h3,h4⟩:=h;exact⟨v,h1.turns hT (fun hs=>by have:=ho _ hs;omega),Ze8 h2 hT (fun k hk hs=>by have:=ho _ hs;omega),h3,Zmi h4 hT hB⟩
theorem Zkc(m gf:Nat)(lb:Array Value)(own:Nat->Prop)(B:Nat)(xs:List (Nat×Nat))(w:World)(eg:∀args w,(callFunc gf args).run Zw w=.ok (.enter gf args) w)
  (hseq:SeqW (m-1) Zw gf lb (fun x=> #[encSpan x]) own B xs w) (hBw:B≤w.heap.size) (hown:∀k,own k->k<B) (hlen:xs.length≤1000000):
  CallsIn Fence.wide m Zw 273 #[Zt none 0 0,.func (.func gf) #[] lb] w fun e w'=>∃v,e=.returned v/\w'.ownsRow (w.heap.size+1) 308 2 v xs.length (xs.flatMap spanCells)/\(v=Zt none 0 0↔xs= [])/\Chg own w w':=by
 refine callsIn_of_wp_marks Tryz.func273 rfl trivial ?_ rfl;simp only [Tryz.ntmps273,List.size_toArray,List.length_cons,List.length_nil,Nat.reduceAdd,Nat.reduceSub,Array.replicate_succ,Array.replicate_zero,List.push_toArray,List.append_toArray,List.nil_append,List.cons_append];gi_wp2;refine Zgp (w0:=w) (gf:=gf) (lb:=lb) rfl eg hseq (((Zb _ w).alloc (Za _) _).mono hBw) (by rw[Zaa];omega) hown (fun _=>rfl) (ApI own w) (fun _ _ _=>False)
  (fun pre A A' h hT=>h.turns hT (by rw[Zaa];omega) (fun k hk=>Zd (hown k hk) hBw)) (fun _ _ _ _ h _=>h) ?_
  (ApAx own w (.func (.func gf) #[] lb)) ?_ ?assign ?body ?done ?stop
 ·intro W1 hb
  refine⟨Zt none 0 0,(At.new w _ _).below hb (by rw[Zaa];omega),World.ownsRow_nil _ _ _ _,by simp,?_⟩;exact((Zl own w).alloc _).trans (Zm hb own)
 ·rintro l pre x a' A A' ⟨h,Bx,h1,h2,h3⟩ hT
  exact⟨h.turns hT (by rw[Zaa];omega) (fun k hk=>Zd (hown k hk) hBw),Bx,h1,h2.turns hT (fun hs=>by have:=hown _ hs;omega),h3⟩
 case assign=>
  intro l pre x W K hl hlt hpre hi hK;obtain⟨v,_,_,_,hc⟩:=id hi;have hsz:=hc.size;simp only [encSpan,List.zip_toArray,List.zip_cons_cons,List.zip_nil_right];gi_wp2;refine hK _ _ ((KeepsOthers.alloc _ _).from _) ((Zb B W).alloc (by omega) _) ⟨hi.turns (B:=W.heap.size) (Turns.ofChg ((Zl own W).alloc _)) hsz (fun k hk=>Zd (hown k hk) hBw),W.heap.size,?_,At.new _ _ _,rfl⟩;rw[Zaa]at hl;omega
 case body=>
  rintro l pre x a' W hl hr hpre ⟨⟨v,h1,h2,h3,h4⟩,Bx,hBx,hx,rfl⟩;have hsz:=h4.size;have c0:W.cell? ⟨Bx,0,none⟩=some (O Z (x.1:Int)):=hx.cell 0;have c1:W.cell? ⟨Bx,1,none⟩=some (O Z (x.2:Int)):=hx.cell 1;have cs:W.cell? ⟨w.heap.size,0,none⟩=some v:=h1.cell 0;have hlp:pre.length+1≤1000000:=by
   have:=hpre.length_le;simp at this;omega
  obtain⟨i1,i0,i,z,i2,i3,i4,i5,i6⟩:=Znm;gi_wp2_with (gi_at_builtin;refine wpListIn_append_own _ rfl _ _ 229 rfl (w.heap.size+1) 308 i z 2 16 i1 i2 i3 i4 i5 i6 i0 v pre.length _ rfl (h2.alloc _) ⟨W.heap.size,0,none⟩ 1 1 (spanCells x) rfl rfl (cell_two_new _ _ _ _) (by intro u hu;simp[spanCells]at hu;rcases hu with rfl|rfl<;>rfl) (by unfold maxLen;omega) (by omega) (by rw[Zaa];have:=h1.lt;omega) ?_;intro v' w3 hown3 hg3 hnil3;obtain⟨g',cap',rfl,hg'⟩:=Zmk hown3 (by omega);have a3:At w3 w.heap.size #[v] 229:=(hg3.block _ (by rw[Zaa];have:=h1.lt;omega) (fun e=>by have:=(h2.lt _ e.symm).1;omega)).trans (h1.alloc _);have c3:w3.cell? ⟨w.heap.size,0,none⟩=some v:=a3.cell 0;have f3:=a3.free 0);have hC:(w.alloc (Obj.cells #[Value.slice none 0 0] 229)).heap.size=w.heap.size+1:=Zaa _ _;have k1:KeepsOthers W (W.alloc (Zv #[O Z (x.1:Int),O Z (x.2:Int)] 308)):=KeepsOthers.alloc _ _;have k2:KeepsOthers (W.alloc (Zv #[O Z (x.1:Int),O Z (x.2:Int)] 308)) w3:=KeepsOthers.of_grownBy hg3 (Zig (h2.alloc _));have b2:Below B W w3:=((Zb B W).alloc (by omega) _).grown hg3 (by rw[Zaa];omega) (fun k hk=>by have:=(h2.lt k hk).1;omega);refine⟨((k1.trans k2).trans (KeepsOthers.setCell _ _ _)).from _,b2.setCell (by simpa using hBw) _,Zt (some ⟨g',0,none⟩) (pre.length+1) cap',a3.set 0 _,?_,by simp,?_⟩
  ·have h:=ownsRow_setCell_below hown3 (a:=⟨w.heap.size,0,none⟩) (by simp) (Zt (some ⟨g',0,none⟩) (pre.length+1) cap')
   rw[Zo,List.flatMap_append];simpa using h
  ·refine Zk (S:=own) (Zrn h4 ?_) ⟨w.heap.size,0,none⟩ (.inr (Za _)) _
   exact((Zb _ W).alloc (by omega) _).grown hg3 (by rw[Zaa];omega) (fun k hk=>by have:=(h2.lt k hk).1;omega)
 case done=>
  rintro D W hD ⟨v,h1,h2,h3,h4⟩ hd;have cs:W.cell? ⟨w.heap.size,0,none⟩=some v:=h1.cell 0;gi_wp2;have hT:=Turns.putObj (own:=own) (B:=w.heap.size) (by rw[Zaa]at hD;omega) hd rfl (.deferred none);have hno:∀k,w.heap.size≤k->¬own k:=fun k hk ho=>by have:=hown k ho;omega
  refine⟨by simp,.inl ⟨_,_,rfl,run_takeDeferred hd,?_⟩⟩;exact⟨_,results_tmp rfl _ _ _,v,rfl,Ze8 h2 hT (fun k hk=>hno k (by omega)),h3,Zmi h4 hT (Za _)⟩
 case stop=>
  intro D c pre W _ h _;exact h.elim
theorem Zmn(gr Br Bf Bn size start n:Nat)(tail used:Int)(w:World)(hsz:size≤2048)(hst:start<size)(hn:n≤size)
  (hgr:At w gr #[O Z size,O Z tail,O Z used] 190) (hr:At w Br #[Zs (some ⟨gr,0,none⟩)] 143) (hf:At w Bf #[O Z start] 3) (hnn:At w Bn #[O Z n] 3)
  (h1:gr≠Bf) (h2:gr≠Bn) (h3:Br≠Bf) (h4:Br≠Bn) (h5:Bf≠Bn):
  Calls Zw 225 #[.func (.func 274) #[] #[Zs (some ⟨Bn,0,none⟩),Zs (some ⟨Br,0,none⟩),Zs (some ⟨Bf,0,none⟩)]] w fun e w'=>
   ∃v,e=.returned v/\w'.ownsRow w.heap.size 308 2 v (spansL size start n).length ((spansL size start n).flatMap spanCells)/\(v=Zt none 0 0↔spansL size start n= [])/\Chg (fun k=>k=Bf\/k=Bn) w w':=by
 have hseq:=Zq0 5 gr w.heap.size Br Bf Bn size start n tail used w (by omega) hsz hst hn hgr hr hf hnn hgr.lt hr.lt hf.lt hnn.lt h1 h2 h3 h4 h5;have hlen:(spansL size start n).length≤1000000:=by
  unfold spansL;split
  ·simp
  ·split<;>simp
 have hcall:=callsIn_wide.1 (Zkc 6 274 _ _ w.heap.size _ w (enters_of Tryz.func274 (by kernel_rfl) rfl) hseq (Za _) (fun k hk=>by rcases hk with rfl|rfl;exact hf.lt;exact hnn.lt) hlen);have Hc:=hid hcall;clear hcall hseq hgr hr hf hnn;go_enter Tryz.func225,Tryz.ntmps225;go_wp2_with (go_at_call 273;refine Hc.out.mono ?_;rintro e w' ⟨v,rfl,hown,hnil,hc⟩);go_ret;refine⟨v,rfl,?_,hnil,hc⟩;exact⟨hown.1,hown.2.imp id (fun ⟨g,cap,cur,a,b,r⟩=>⟨g,cap,cur,a,by omega,r⟩)⟩
open Go.RowKit
abbrev RingAt(w:World)(g size tail used:Nat):Prop:=At w g #[O Z (size:Int),O Z (tail:Int),O Z (used:Int)] 190
theorem RingAt.cells{tail used:Nat}(h:RingAt w g size tail used):
  w.cell? ⟨g,0,none⟩=some (O Z (size:Int))/\w.cell? ⟨g,1,none⟩=some (O Z (tail:Int))/\w.cell? ⟨g,2,none⟩=some (O Z (used:Int)):=
 ⟨h.cell 0,h.cell 1,h.cell 2⟩
def SpanRow(w:World)(base:Nat)(v:Value)(l:List (Nat×Nat)):Prop:=w.ownsRow base 308 2 v l.length (l.flatMap spanCells)/\(v=Zt none 0 0↔l= [])
theorem SpanRow.rebase{base':Nat}(h:SpanRow w base v l)(hb:base'≤base):SpanRow w base' v l:=
 ⟨⟨h.1.1,h.1.2.imp id (fun ⟨g,cap,cur,a,b,r⟩=>⟨g,cap,cur,a,Zc hb b,r⟩)⟩,h.2⟩
theorem SpanRow.set(h:SpanRow w base v l){a:Addr}(ha:a.block<base)(u:Value):SpanRow (w.setCell a u) base v l:=
 ⟨ownsRow_setCell_below h.1 ha u,h.2⟩
theorem SpanRow.below{w':World}(h:SpanRow w base v l)(hb:Below B w w')(hB:w.heap.size≤B):SpanRow w' base v l:=⟨Zaf h.1 hb hB,h.2⟩
theorem Zr2(size tail used:Nat)(w:World)(h1:5≤size)(h2:size≤2048)(h3:tail<size)(h4:used≤size):
  Calls Zw 80 #[O Z size,O Z tail,O Z used] w fun e w'=>e=Zu (.tuple #[Zs (some ⟨w.heap.size,0,none⟩),.int .u16 0])/\
   w'=w.alloc (Zv #[O Z (size:Int),O Z (tail:Int),O Z (used:Int)] 190):=by
 go_enter Tryz.func80,Tryz.ntmps80;go_wp2;go_ret2;exact⟨rfl,rfl⟩
theorem Zjj(g size tail used n:Nat)(w:World)(h:RingAt w g size tail used)(h2:size≤2048)(h0:0<size)(h3:tail<size)(hn:n≤2048):
  Calls Zw 246 #[Zs (some ⟨g,0,none⟩),O Z n] w fun e w'=>e=Zu (O Z ((tail+n)%size:Nat))/\Below w.heap.size w w':=by
 obtain⟨c0,c1,c2⟩:=h.cells;have hmod:((tail:Int)+(n:Int))%(size:Int)=(((tail+n)%size:Nat):Int):=by simp
 have hs:((size:Int)==0)=false:=beq_eq_false_iff_ne.2 (by omega);have hlt:=Nat.mod_lt (tail+n) h0;clear h;generalize (tail+n)%size=q at*;go_enter Tryz.func246,Tryz.ntmps246;go_wp2;go_quiet (fail);go_wp2;go_ret;exact⟨Zn6 hmod,below_drewN (Zb _ _) _⟩
theorem Zkx(g size tail used:Nat)(w:World)(h:RingAt w g size tail used)(h2:size≤2048)(h0:0<size)(h3:tail<size)(hn:used≤size):
  Calls Zw 203 #[Zs (some ⟨g,0,none⟩)] w fun e w'=>e=Zu (O Z ((tail+used)%size:Nat))/\Below w.heap.size w w':=by
 have hcall:=hid (Zjj g size tail used used w h h2 h0 h3 (by omega));obtain⟨c0,c1,c2⟩:=h.cells;clear h;generalize (tail+used)%size=q at*;go_enter Tryz.func203,Tryz.ntmps203;go_wp2_with (go_at_call 246;refine hcall.out.mono ?_;rintro e w' ⟨rfl,hb⟩);go_ret;exact⟨rfl,hb⟩
theorem Zoz(g size tail used:Nat)(w:World)(h:RingAt w g size tail used)(h2:size≤2048)(hn:used≤size):
  Calls Zw 148 #[Zs (some ⟨g,0,none⟩)] w fun e w'=>e=Zu (O Z (size-used:Nat))/\Below w.heap.size w w':=by
 obtain⟨c0,c1,c2⟩:=h.cells;have hsub:(size:Int)-(used:Int)=((size-used:Nat):Int):=by omega
 clear h;generalize size-used=q at*;go_enter Tryz.func148,Tryz.ntmps148;go_wp2;go_quiet (fail);go_wp2;go_ret;exact⟨rfl,below_drewN (Zb _ _) _⟩
theorem Zjy(g size tail used:Nat)(w:World)(h:RingAt w g size tail used):
  Calls Zw 143 #[Zs (some ⟨g,0,none⟩)] w fun e w'=>e=Zu (O Z (size:Nat))/\w=w':=by
 obtain⟨c0,c1,c2⟩:=h.cells;clear h;go_enter Tryz.func143,Tryz.ntmps143;go_wp2;go_ret;exact⟨rfl,rfl⟩
theorem Zov(g size tail used:Nat)(w:World)(h:RingAt w g size tail used):
  Calls Zw 144 #[Zs (some ⟨g,0,none⟩)] w fun e w'=>e=Zu (O Z (used:Nat))/\w=w':=by
 obtain⟨c0,c1,c2⟩:=h.cells;clear h;go_enter Tryz.func144,Tryz.ntmps144;go_wp2;go_ret;exact⟨rfl,rfl⟩
theorem Zlq(r':Option Addr)(a b:Int)(w:World):
  Calls Zw 226 #[.pointer r',O Z a,O Z b] w fun e w'=>e=Zu (.func (.func 274) #[] #[Zs (some ⟨w.heap.size+2,0,none⟩),Zs (some ⟨w.heap.size,0,none⟩),Zs (some ⟨w.heap.size+1,0,none⟩)])/\
   w'=((w.alloc (Zv #[.pointer r'] 143)).alloc (Zv #[O Z a] 3)).alloc (Zv #[O Z b] 3):=by
 go_enter Tryz.func226,Tryz.ntmps226;go_wp2;go_ret;exact⟨rfl,rfl⟩
theorem Zfa(g size tail used start n:Nat)(w:World)(h:RingAt w g size tail used)(h2:size≤2048)(h3:start<size)(hn:n≤size):
  Calls Zw 225 #[.func (.func 274) #[] #[Zs (some ⟨w.heap.size+2,0,none⟩),Zs (some ⟨w.heap.size,0,none⟩),Zs (some ⟨w.heap.size+1,0,none⟩)]]
   (((w.alloc (Zv #[Zs (some ⟨g,0,none⟩)] 143)).alloc (Zv #[O Z (start:Int)] 3)).alloc (Zv #[O Z (n:Int)] 3)) fun e w'=>
   ∃v,e=.returned v/\SpanRow w' w.heap.size v (spansL size start n)/\Below w.heap.size w w':=by
 have hlt:=h.lt;have h1:=((h.alloc (Zv #[Zs (some ⟨g,0,none⟩)] 143)).alloc (Zv #[O Z (start:Int)] 3)).alloc (Zv #[O Z (n:Int)] 3);have e1:At (((w.alloc (Zv #[Zs (some ⟨g,0,none⟩)] 143)).alloc (Zv #[O Z (start:Int)] 3)).alloc (Zv #[O Z (n:Int)] 3)) w.heap.size #[Zs (some ⟨g,0,none⟩)] 143:=
  ((At.new _ _ _).alloc _).alloc _
 have e2:At (((w.alloc (Zv #[Zs (some ⟨g,0,none⟩)] 143)).alloc (Zv #[O Z (start:Int)] 3)).alloc (Zv #[O Z (n:Int)] 3)) (w.heap.size+1) #[O Z (start:Int)] 3:=
  (At.new2 _ _ _ _).alloc _
 refine(Zmn g w.heap.size (w.heap.size+1) (w.heap.size+2) size start n tail used _ h2 h3 hn h1 e1 e2 (At.new3 _ _ _ _ _) (by omega) (by omega) (by omega) (by omega) (by omega)).mono ?_;rintro e w' ⟨v,rfl,hown,hnil,hc⟩;have hb3:Below w.heap.size w (((w.alloc (Zv #[Zs (some ⟨g,0,none⟩)] 143)).alloc (Zv #[O Z (start:Int)] 3)).alloc (Zv #[O Z (n:Int)] 3)):=
  (((Zb _ w).alloc (Za _) _).alloc (by rw[Zaa];omega) _).alloc (by rw[Zaa,Zaa];omega) _
 refine⟨v,rfl,⟨⟨hown.1,hown.2.imp id (fun ⟨g,cap,cur,a,b,r⟩=>⟨g,cap,cur,a,Zc hb3.size b,r⟩)⟩,hnil⟩,?_⟩;exact Chg.own hb3 hc (fun k hk=>by rcases hk with rfl|rfl<;>omega)
def TakePost(w:World)(g size tail used start n:Nat)(e:Ending)(w':World):Prop:=
 ∃v,e=Zu (.tuple #[v,.int .u16 0])/\RingAt w' g size tail used/\SpanRow w' w.heap.size v (spansL size start n)/\Chg (fun k=>k=g) w w'
theorem Zv5(g size tail used n:Nat)(w:World)(h:RingAt w g size tail used)(h2:size≤2048)(h0:0<size)(h3:tail<size)(hu:used≤size)(hn:n≤size-used):
  Calls Zw 150 #[Zs (some ⟨g,0,none⟩),O Z n] w (TakePost w g size tail (used+n) ((tail+used)%size) n):=by
 have hfree:=hid (Zoz g size tail used w h h2 hu);have hhead:=hid (fun (W:World) (hb:Below w.heap.size w W)=>Zkx g size tail used W (h.below hb h.lt) h2 h0 h3 hu);have hq:=Nat.mod_lt (tail+used) h0;have hcol:=hid (fun (W:World) (hb:Below w.heap.size w W)=>Zfa g size tail used ((tail+used)%size) n W (h.below hb h.lt) h2 hq (by omega));have hlt:=h.lt;have H:=hid h;have hno:¬(((size-used:Nat):Int)<(n:Int)):=by omega
 have hn2:n≤2048:=by omega
 clear h;generalize (tail+used)%size=st at*;generalize size-used=q at*;go_enter Tryz.func150,Tryz.ntmps150
 go_wp2_with (first
  |(go_at_call 148;refine hfree.out.mono ?_;rintro e w1 ⟨rfl,hb1⟩)
  |(go_at_call 203;refine(hhead.out _ hb1).mono ?_;rintro e w2 ⟨rfl,hb2⟩;have hb2':=Zac hb1 hb2)
  |(go_at_call 226;refine(Zlq _ _ _ _).mono ?_;rintro e w3 ⟨rfl,rfl⟩)
  |(go_at_call 225;refine(hcol.out _ hb2').mono ?_;rintro e w4 ⟨v,rfl,hrow,hb4⟩;have hb4':=Zac hb2' hb4;have hr4:=H.out.below hb4' hlt;obtain⟨d0,d1,d2⟩:=RingAt.cells hr4;have f2:=hr4.free 2))
 go_ret2;refine⟨v,rfl,hr4.set 2 (O Z ((used+n:Nat):Int)),?_,?_⟩
 ·exact(hrow.set (a:=⟨g,2,none⟩) (Zd hlt hb2'.size) _).rebase hb2'.size
 ·exact Zk (S:=fun k=>k=g) (Zm hb4' _) ⟨g,2,none⟩ (.inl rfl) _
theorem Zwi(g size tail used n:Nat)(w:World)(h:RingAt w g size tail used)(h2:size≤2048)(h0:0<size)(h3:tail<size)(hu:used≤size)(hn:n≤used):
  Calls Zw 204 #[Zs (some ⟨g,0,none⟩),O Z n] w (TakePost w g size ((tail+n)%size) (used-n) tail n):=by
 have hcol:=hid (Zfa g size tail used tail n w h h2 h3 (by omega));have hbeh:=hid (fun (W:World) (hb:Below w.heap.size w W)=>Zjj g size tail used n W (h.below hb h.lt) h2 h0 h3 (by omega));have hlt:=h.lt;have H:=hid h;have hno:¬((used:Int)<(n:Int)):=by omega
 have hq:(used:Int)-(n:Int)=((used-n:Nat):Int):=by omega
 obtain⟨c0,c1,c2⟩:=h.cells;clear h;have hwq:IntKind.i64.wrap ((used-n:Nat):Int)=((used-n:Nat):Int):=IntWalk.i64_in _ (by omega);generalize used-n=q at*;generalize (tail+n)%size=st at*;go_enter Tryz.func204,Tryz.ntmps204
 go_wp2_with (first
  |(go_at_call 226;refine(Zlq _ _ _ _).mono ?_;rintro e w3 ⟨rfl,rfl⟩)
  |(go_at_call 225;refine hcol.out.mono ?_;rintro e w4 ⟨v,rfl,hrow,hb4⟩;have hr4:=H.out.below hb4 hlt;obtain⟨d0,d1,d2⟩:=RingAt.cells hr4;have f1:=hr4.free 1;have f2:=hr4.free 2))
 go_region_with (go_at_call 246;refine(hbeh.out _ (Zac hb4 (Zb _ _).drew)).mono ?_;rintro e w5 ⟨rfl,hb5⟩;have hr5:=H.out.below (Zac hb4 ((Zb _ _).drew.trans hb5)) hlt;obtain⟨k0,k1,k2⟩:=RingAt.cells hr5;have g1:=hr5.free 1;have g2:=hr5.free 2);all_goals
  have hb45:Below w4.heap.size w4 w5:=(Zb w4.heap.size w4).drew.trans hb5
  have hbw5:=Zac hb4 hb45
  go_wp2
  go_ret2
  refine⟨v,rfl,(hr5.set 1 _).set 2 _,?_,?_⟩
  ·exact((hrow.below hb45 (Za _)).set (a:=⟨g,1,none⟩) hlt _).set (a:=⟨g,2,none⟩) hlt _
  ·exact Zk (S:=fun k=>k=g) (Zk (S:=fun k=>k=g) (Zm hbw5 _) ⟨g,1,none⟩ (.inl rfl) _) ⟨g,2,none⟩ (.inl rfl) _
open Go.RowKit
theorem Zoq:∀(l:List (Nat×Nat)) (i:Nat) (h:i<l.length),(l.flatMap spanCells)[i*2]?=some (O Z (l[i].1:Int))/\(l.flatMap spanCells)[i*2+1]?=some (O Z (l[i].2:Int))
 |x::l,0,_=>by simp[spanCells]
 |x::l,i+1,h=>by
  have ih:=Zoq l i (by simpa using h);have e1:(List.flatMap spanCells (x::l))[(i+1)*2]?=(l.flatMap spanCells)[i*2]?:=by
   rw[List.flatMap_cons,List.getElem?_append_right (by simp[spanCells];omega)];congr 1;simp[spanCells];omega
  have e2:(List.flatMap spanCells (x::l))[(i+1)*2+1]?=(l.flatMap spanCells)[i*2+1]?:=by
   rw[List.flatMap_cons,List.getElem?_append_right (by simp[spanCells];omega)];congr 1;simp[spanCells];omega
  rw[e1,e2];simpa using ih
theorem SpanRow.at{cap:Nat}(h:SpanRow w base (Zt (some ⟨g,0,none⟩) n cap) l)(i:Nat)(hi:i<l.length):
  w.cell? ⟨g,i*2,none⟩=some (O Z (l[i].1:Int))/\w.cell? ⟨g,i*2+1,none⟩=some (O Z (l[i].2:Int)):=by
 rcases h.1.2 with ⟨hv,_⟩|⟨g',cap',cur,hv,hb,hg,hc,_,hs,ht⟩
 ·cases hv
 ·simp only [Zn,Zg,Addr.mk.injEq]at hv
  obtain⟨⟨rfl,_,_⟩,_,_⟩:=hv;obtain⟨e1,e2⟩:=Zoq l i hi;rw[<-ht,List.getElem?_take,Zf (by omega)]at e1 e2;rw[cell_of_row w _ _ cur 308 _ hg,cell_of_row w _ _ cur 308 _ hg];exact⟨by rw[<-e1];simp,by rw[<-e2];simp⟩
open Go.RowKit
abbrev walCells(b slot ep rp next:Nat)(sure:Bool)(lg:Option Nat)(br:Nat):Array Value:=
 #[Zs (some ⟨b,0,none⟩),O Z slot,.int .u64 ep,Zs (some ⟨rp,0,none⟩),.int .u64 next,.bool sure,.pointer (lg.map fun g=>⟨g,0,none⟩),.int .u16 br]
def NotBay(T:Nat->Nat)(v:Value):Prop:=∀a n c,v=Zt (some a) n c->T a.block=0
theorem Zl5(h:BayAt w T b s)(g0 g1 g2 wp slot ep rp next br:Nat)(sure:Bool)(lg:Option Nat)(z:Nat)(v:Value)(l:List UInt8)(hw:At w wp (walCells b slot ep rp next sure lg br) 148)
  (h0:At w g0 #[Zs (some ⟨wp,0,none⟩)] 66) (h1:At w g1 #[O Z z] 3) (h2:At w g2 #[v] 36) (hv:Seg w v l) (hvT:NotBay T v) (t0:T g0=0) (t1:T g1=0) (t2:T g2=0) (tw:T wp=0) (hcnt:s.cnt 1≤1000000000000) (hm:s.small 1000000):
  Calls Zw 121 #[Zs (some ⟨g0,0,none⟩),Zs (some ⟨g1,0,none⟩),Zs (some ⟨g2,0,none⟩)] w fun e w'=>e=Zu (.int .u16 ((s.write slot z l).1:Nat))/\BayPost w T b (s.write slot z l).2 w':=by
 have HW:Hid (∀W,Below w.heap.size w W->Calls Zw 43 #[Zs (some ⟨b,0,none⟩),O Z slot,O Z z,v] W fun e w'=>e=Zu (.int .u16 ((s.write slot z l).1:Nat))/\BayPost w T b (s.write slot z l).2 w'):=fun W hb=>(Zh4 (h.below hb) slot z v l hcnt hm (hv.below hb) hvT).mono (by
  rintro e w' ⟨rfl,hp⟩
  exact⟨rfl,BayPost.trans (fun _ _=>rfl) (Zm hb _) hp⟩)
 obtain⟨va,vc,rfl⟩:=hv.shape;have HSS:Hid (∀W,Chg (fun q=>T q≠0) w W->W.cell? ⟨g0,0,none⟩=some (Zs (some ⟨wp,0,none⟩))/\W.cell? ⟨g1,0,none⟩=some (O Z z)/\W.cell? ⟨g2,0,none⟩=some (Zt va l.length vc)/\W.cell? ⟨wp,0,none⟩=some (Zs (some ⟨b,0,none⟩))/\W.cell? ⟨wp,1,none⟩=some (O Z slot)):=fun W hc=>
  have k0:=h0.mod hc (fun e=>e t0);have k1:=h1.mod hc (fun e=>e t1);have k2:=h2.mod hc (fun e=>e t2);have kw:=hw.mod hc (fun e=>e tw);⟨k0.cell 0,k1.cell 0,k2.cell 0,kw.cell 0,kw.cell 1⟩
 have HSA:=hid (HSS.out w (Zl _ _));clear h h0 h1 h2 hw hv;go_enter Tryz.func121,Tryz.ntmps121;go_wp2;go_region_held3 (fun W=>W.cell? ⟨g0,0,none⟩=some (Zs (some ⟨wp,0,none⟩))/\W.cell? ⟨g1,0,none⟩=some (O Z z)/\W.cell? ⟨g2,0,none⟩=some (Zt va l.length vc)/\W.cell? ⟨wp,0,none⟩=some (Zs (some ⟨b,0,none⟩))/\W.cell? ⟨wp,1,none⟩=some (O Z slot))
  (first|exact HSA.out|exact HSB)
  (first|(go_at_call 43;(with_reducible refine(HW.out _ ?_).mono ?_);(first|exact Zb _ _|exact(Zb _ _).drew|exact below_drewN (Zb _ _) _);rintro e w1 ⟨rfl,hp⟩;have HP:=hid hp;have HSB:=HSS.out w1 hp.choose_spec.2.2;clear hp))
 go_wp2;go_ret;exact⟨rfl,HP.out⟩
theorem Zlx(h:BayAt w T b s)(g0 wp slot ep rp next br:Nat)(sure:Bool)(lg:Option Nat)(hw:At w wp (walCells b slot ep rp next sure lg br) 148)
  (h0:At w g0 #[Zs (some ⟨wp,0,none⟩)] 66) (t0:T g0=0) (tw:T wp=0) (hcnt:s.cnt 2≤1000000000000) (hm:s.small 1000000):
  Calls Zw 164 #[Zs (some ⟨g0,0,none⟩)] w fun e w'=>e=Zu (.int .u16 ((s.flush slot).1:Nat))/\BayPost w T b (s.flush slot).2 w':=by
 have HW:Hid (∀W,Below w.heap.size w W->Calls Zw 47 #[Zs (some ⟨b,0,none⟩),O Z slot] W fun e w'=>e=Zu (.int .u16 ((s.flush slot).1:Nat))/\BayPost w T b (s.flush slot).2 w'):=fun W hb=>(Zh8 (h.below hb) slot hcnt hm).mono (by
  rintro e w' ⟨rfl,hp⟩
  exact⟨rfl,BayPost.trans (fun _ _=>rfl) (Zm hb _) hp⟩)
 have HSS:Hid (∀W,Chg (fun q=>T q≠0) w W->W.cell? ⟨g0,0,none⟩=some (Zs (some ⟨wp,0,none⟩))/\W.cell? ⟨wp,0,none⟩=some (Zs (some ⟨b,0,none⟩))/\W.cell? ⟨wp,1,none⟩=some (O Z slot)):=fun W hc=>
  have k0:=h0.mod hc (fun e=>e t0);have kw:=hw.mod hc (fun e=>e tw);⟨k0.cell 0,kw.cell 0,kw.cell 1⟩
 have HSA:=hid (HSS.out w (Zl _ _));clear h h0 hw;go_enter Tryz.func164,Tryz.ntmps164;go_wp2;go_region_held3 (fun W=>W.cell? ⟨g0,0,none⟩=some (Zs (some ⟨wp,0,none⟩))/\W.cell? ⟨wp,0,none⟩=some (Zs (some ⟨b,0,none⟩))/\W.cell? ⟨wp,1,none⟩=some (O Z slot))
  (first|exact HSA.out|exact HSB)
  (first|(go_at_call 47;(with_reducible refine(HW.out _ ?_).mono ?_);(first|exact Zb _ _|exact(Zb _ _).drew|exact below_drewN (Zb _ _) _);rintro e w1 ⟨rfl,hp⟩;have HP:=hid hp;have HSB:=HSS.out w1 hp.choose_spec.2.2;clear hp))
 go_wp2;go_ret;exact⟨rfl,HP.out⟩
def WalPost(w:World)(T:Nat->Nat)(b:Nat)(s':BaySt)(wp:Nat)(cells:Array Value)(w':World):Prop:=
 ∃T',BayAt w' T' b s'/\(∀q,q<w.heap.size->T' q=T q)/\Chg (fun q=>T q≠0\/q=wp) w w'/\At w' wp cells 148
theorem WalPost.made{w1:World}{s':BaySt}{wp:Nat}{cells:Array Value}(hp:BayPost w T b s' w1)(hw:At w1 wp cells 148)(hl:wp<w.heap.size)(tw:T wp=0)(i:Nat)(u:Value):
  WalPost w T b s' wp (cells.setIfInBounds i u) (w1.setCell ⟨wp,i,none⟩ u):=by
 obtain⟨T',h1,h2,h3⟩:=hp;refine⟨T',h1.keep (S:=fun q=>q=wp) (Zk (S:=fun q=>q=wp) (Zl _ _) ⟨wp,i,none⟩ (.inl rfl) u) (fun k hk e=>hk (by rw[e,h2 wp hl];exact tw)),h2,?_,hw.set i u⟩;exact Zk (S:=fun q=>T q≠0\/q=wp) (h3.mono fun q hq=>.inl hq) ⟨wp,i,none⟩ (.inl (.inr rfl)) u
open Go.RowKit
theorem Zep(b slot ep rp next br wp:Nat)(sure:Bool)(lg:Option Nat)(cl:Value)(hw:At w wp (walCells b slot ep rp next sure lg br) 148)(hb:br≠0):
  Calls Zw 120 #[Zs (some ⟨wp,0,none⟩),cl] w fun e w'=>e=Zu (.int .u16 br)/\w'=w:=by
 have c7:w.cell? ⟨wp,7,none⟩=some (.int .u16 br):=hw.cell 7;have hbi:((br:Int)==0)=false:=beq_eq_false_iff_ne.2 (by omega);clear hw;go_enter Tryz.func120,Tryz.ntmps120;go_wp2;go_ret;exact⟨rfl,rfl⟩
theorem Zkb(h:BayAt w T b s)(slot ep rp next wp:Nat)(sure:Bool)(lg:Option Nat)(hw:At w wp (walCells b slot ep rp next sure lg 0) 148)(g0 g1 g2:Nat)(z:Nat)(v:Value)(l:List UInt8)(h0:At w g0 #[Zs (some ⟨wp,0,none⟩)] 66)(h1:At w g1 #[O Z z] 3)(h2:At w g2 #[v] 36)(hv:Seg w v l)(hvT:NotBay T v)(t0:T g0=0)(t1:T g1=0)(t2:T g2=0)(tw:T wp=0)(hcnt:s.cnt 1≤1000000000000)(hm:s.small 1000000):
  Calls Zw 120 #[Zs (some ⟨wp,0,none⟩),.func (.func 121) #[] #[Zs (some ⟨g0,0,none⟩),Zs (some ⟨g1,0,none⟩),Zs (some ⟨g2,0,none⟩)]] w fun e w'=>e=Zu (.int .u16 ((s.write slot z l).1:Nat))/\WalPost w T b (s.write slot z l).2 wp (walCells b slot ep rp next sure lg (s.write slot z l).1) w':=by
 have c7:w.cell? ⟨wp,7,none⟩=some (.int .u16 0):=hw.cell 7;have HD:=hid (Zl5 h g0 g1 g2 wp slot ep rp next 0 sure lg z v l hw h0 h1 h2 hv hvT t0 t1 t2 tw hcnt hm);have HW:=hid hw;have hl:=hw.lt;clear h hw h0;generalize s.write slot z l=r at*;go_enter Tryz.func120,Tryz.ntmps120
 go_wp2_with (first
  |(go_at_call 121;(with_reducible refine HD.out.mono ?_);rintro e w1 ⟨rfl,hp⟩;have hw1:=HW.out.mod hp.choose_spec.2.2 (fun e=>e tw);have f7:=hw1.free 7;have d7:w1.cell? ⟨wp,7,none⟩=some (.int .u16 0):=hw1.cell 7;have HP:=hid hp;have HW1:=hid hw1;clear hp hw1 c7))
 go_ret;exact⟨rfl,WalPost.made HP.out HW1.out hl tw 7 _⟩
theorem Zjw(h:BayAt w T b s)(slot ep rp next wp:Nat)(sure:Bool)(lg:Option Nat)(hw:At w wp (walCells b slot ep rp next sure lg 0) 148)(g0:Nat)(h0:At w g0 #[Zs (some ⟨wp,0,none⟩)] 66)(t0:T g0=0)(tw:T wp=0)(hcnt:s.cnt 2≤1000000000000)(hm:s.small 1000000):
  Calls Zw 120 #[Zs (some ⟨wp,0,none⟩),.func (.func 164) #[] #[Zs (some ⟨g0,0,none⟩)]] w fun e w'=>e=Zu (.int .u16 ((s.flush slot).1:Nat))/\WalPost w T b (s.flush slot).2 wp (walCells b slot ep rp next sure lg (s.flush slot).1) w':=by
 have c7:w.cell? ⟨wp,7,none⟩=some (.int .u16 0):=hw.cell 7;have HD:=hid (Zlx h g0 wp slot ep rp next 0 sure lg hw h0 t0 tw hcnt hm);have HW:=hid hw;have hl:=hw.lt;clear h hw h0;generalize s.flush slot=r at*;go_enter Tryz.func120,Tryz.ntmps120
 go_wp2_with (first
  |(go_at_call 164;(with_reducible refine HD.out.mono ?_);rintro e w1 ⟨rfl,hp⟩;have hw1:=HW.out.mod hp.choose_spec.2.2 (fun e=>e tw);have f7:=hw1.free 7;have d7:w1.cell? ⟨wp,7,none⟩=some (.int .u16 0):=hw1.cell 7;have HP:=hid hp;have HW1:=hid hw1;clear hp hw1 c7))
 go_ret;exact⟨rfl,WalPost.made HP.out HW1.out hl tw 7 _⟩
end Go.Proofs.YtmemlkmnhcealaaGreat
