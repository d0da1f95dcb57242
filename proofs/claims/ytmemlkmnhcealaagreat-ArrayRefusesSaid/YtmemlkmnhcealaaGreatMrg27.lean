
/- Several texts in one: RwQ, RwR, RwS. -/
import Derived.Test.YtmemlkmnhcealaaGreatMrg26
set_option linter.unusedVariables false
set_option maxRecDepth 100000
set_option maxHeartbeats 8000000
namespace Go.Proofs.YtmemlkmnhcealaaGreat
open Value renaming int→O,pointer→Zs
open IntKind renaming i64→Z
open Ending renaming returned→Zu
open Obj renaming cells→Zv
open Go.Proofs.Tryz renaming prog→Zw
open Go.RowKit
open Lib(hid)
variable {A:Adr} {X:List OP} {B M g k n:Nat} {F:Nat->List UInt8} {T:Nat->Nat} {lg:Option Nat} {R:RS} {v vw:Value} {w w1 w8 wb wr wy:World}
def batCells(A:Adr)(pv rv xv:Value):Array Value:= #[Zs (some ⟨A.q,0,none⟩),pv,rv,xv]
def RoomR(R:RS)(n:Nat)(R1:RS):Prop:=(2*n+1≤R.size-R.used/\R1=R)\/(R.size-R.used<2*n+1/\EmptyR R R1)
theorem Ztq(h:RwIn w T A R lg vw X)(hr:Ready R)(hj:Jrn R)(hcnt:R.s.cnt 1≤999997000000)(hcnt2:R.s.cnt 2≤999997000000)(hsm:R.s.small 800000)
  (bp:Nat) (pv rv xv:Value) (us:List (Int×List UInt8)) (hb:At w bp (batCells A pv rv xv) 120) (tb:T bp=0) (hp:PutSeg w pv us) (ok:BatchOk R.M R.C R.S us) (hfit:2*mostIn R.M (R.S*R.C) (tabAll R.M R.C us)+1≤R.size):
  Calls Zw 56 #[Zs (some ⟨bp,0,none⟩)] w fun e w'=>e=Zu (.agg #[O Z 0,.int .u16 0])/\∃R1 lg1 vw1 X1,RoomR R (mostIn R.M (R.S*R.C) (tabAll R.M R.C us)) R1/\RPost w T A R1 lg1 vw1 X1 w':=by
 have hb0:Below w.heap.size w (w.alloc (Zv #[O Z 0,.int .u16 0] 76)):=(Zb _ _).alloc (Za _) _;have htb:T w.heap.size=0:=Zae h.bay _ (Za _);have hlow:=h.low;have h0:=h.below hb0;obtain⟨pa,pc,rfl⟩:=hp.shape;have HTB:Hid (At (w.alloc (Zv #[O Z 0,.int .u16 0] 76)) w.heap.size #[O Z 0,.int .u16 0] 76):=At.new _ _ _;have HSS:Hid (∀W,Below (w.alloc (Zv #[O Z 0,.int .u16 0] 76)).heap.size (w.alloc (Zv #[O Z 0,.int .u16 0] 76)) W->W.cell? ⟨bp,0,none⟩=some (Zs (some ⟨A.q,0,none⟩))/\W.cell? ⟨A.q,1,none⟩=some (O Z R.M)/\W.cell? ⟨A.q,2,none⟩=some (O Z R.C)/\W.cell? ⟨A.q,3,none⟩=some (O Z R.S)/\W.cell? ⟨A.q,4,none⟩=some (Zs (some ⟨A.wp,0,none⟩))/\W.cell? ⟨bp,1,none⟩=some (.slice pa us.length pc)):=fun W hW=>
  ⟨((hb.below hb0 hb.lt).below hW (hb.below hb0 hb.lt).lt).cell 0,(h0.below hW).rw.cell 1,(h0.below hW).rw.cell 2,(h0.below hW).rw.cell 3,(h0.below hW).rw.cell 4,((hb.below hb0 hb.lt).below hW (hb.below hb0 hb.lt).lt).cell 1⟩
 have HPM:Hid (∀W,Below (w.alloc (Zv #[O Z 0,.int .u16 0] 76)).heap.size (w.alloc (Zv #[O Z 0,.int .u16 0] 76)) W->Calls Zw 24 #[.agg #[O Z R.M,O Z R.C,O Z R.S],.slice pa us.length pc] W fun e w'=>e=Zu (.tuple #[O Z (mostIn R.M (R.S*R.C) (tabAll R.M R.C us):Nat),.int .u16 0])/\Below W.heap.size W w'):=fun W hW=>Zll R.M R.C R.S _ us W ok ((hp.below hb0).below hW)
 have HSZ:Hid (∀W,Below (w.alloc (Zv #[O Z 0,.int .u16 0] 76)).heap.size (w.alloc (Zv #[O Z 0,.int .u16 0] 76)) W->Calls Zw 102 #[Zs (some ⟨A.wp,0,none⟩)] W fun e w'=>e=Zu (O Z (R.size:Nat))/\w'=W):=fun W hW=>Zo2 A.b R.M R.ep A.rp R.next 0 A.wp R.size R.tail R.used R.sure lg (h0.below hW).wal (h0.below hW).ring
 have HUS:Hid (∀W,Below (w.alloc (Zv #[O Z 0,.int .u16 0] 76)).heap.size (w.alloc (Zv #[O Z 0,.int .u16 0] 76)) W->Calls Zw 103 #[Zs (some ⟨A.wp,0,none⟩)] W fun e w'=>e=Zu (O Z (R.used:Nat))/\w'=W):=fun W hW=>Zt0 A.b R.M R.ep A.rp R.next 0 A.wp R.size R.tail R.used R.sure lg (h0.below hW).wal (h0.below hW).ring
 have HEM:Hid (∀W,Below (w.alloc (Zv #[O Z 0,.int .u16 0] 76)).heap.size (w.alloc (Zv #[O Z 0,.int .u16 0] 76)) W->Calls Zw 53 #[Zs (some ⟨A.q,0,none⟩)] W fun e w'=>e=Zu (.agg #[O Z 0,.int .u16 0])/\∃R' vw' X',EmptyR R R'/\RPost W T A R' none vw' X' w'):=fun W hW=>Zpk (h0.below hW) hr hj hcnt hcnt2 hsm
 have hqlt:=h.rw.lt;have hblt:=hb.lt;have hus:=hj.us;have hz2:=hj.z2;have H:=hid h;have HB0:=hid hb0;have hmf:mostIn R.M (R.S*R.C) (tabAll R.M R.C us)≤512:=Zc2 ok.few;clear h hb0 h0 hr hj hb hp ok hsm;have HRR:Hid (∀R1 lg1 vw1 X1 w7,RoomR R (mostIn R.M (R.S*R.C) (tabAll R.M R.C us)) R1->RPost (w.alloc (Zv #[O Z 0,.int .u16 0] 76)) T A R1 lg1 vw1 X1 w7->At w7 w.heap.size #[O Z 0,.int .u16 0] 76->∃R1 lg1 vw1 X1,RoomR R (mostIn R.M (R.S*R.C) (tabAll R.M R.C us)) R1/\RPost w T A R1 lg1 vw1 X1 ((w7.setCell ⟨w.heap.size,0,none⟩ (O Z 0)).setCell ⟨w.heap.size,1,none⟩ (.int .u16 0))):=fun R1 lg1 vw1 X1 w7 hro hp7 h7=>⟨R1,lg1,vw1,X1,hro,hp7.out HB0.out h7 (Za _) (by rw[Zaa];omega) htb (box2 _ _ _ _)⟩
 unfold RoomR at HRR ⊢;generalize mostIn R.M (R.S*R.C) (tabAll R.M R.C us)=n at*;have hw1:IntKind.i64.wrap ((2:Int)*n)=((2*n:Nat):Int):=by rw[IntKind.wrap_i64];omega
 have hw2:IntKind.i64.wrap (((2*n:Nat):Int)+1)=((2*n+1:Nat):Int):=by rw[IntKind.wrap_i64];omega
 have hw3:IntKind.i64.wrap ((R.size:Int)-R.used)=((R.size-R.used:Nat):Int):=by rw[IntKind.wrap_i64];omega
 have hd1:decide ((R.size:Int)<((2*n+1:Nat):Int))=false:=by simp;omega
 go_enter Tryz.func56,Tryz.ntmps56;have s0:=HSS.out _ (Zb _ _);obtain⟨s1,s2,s3,s4,s5,s6⟩:=s0;go_wp2;clear s1 s2 s3 s4 s5 s6;go_region_held3 (fun W=>W.cell? ⟨bp,0,none⟩=some (Zs (some ⟨A.q,0,none⟩))/\W.cell? ⟨A.q,1,none⟩=some (O Z R.M)/\W.cell? ⟨A.q,2,none⟩=some (O Z R.C)/\W.cell? ⟨A.q,3,none⟩=some (O Z R.S)/\W.cell? ⟨A.q,4,none⟩=some (Zs (some ⟨A.wp,0,none⟩))/\W.cell? ⟨bp,1,none⟩=some (.slice pa us.length pc))
  (first|exact HSS.out _ (Zb _ _)|exact HSS.out _ (Zb _ _).drew|exact HSS.out _ HB1.out)
  (first
   |(go_at_call 24;(with_reducible refine(HPM.out _ ?_).mono ?_);(exact(Zb _ _).drew);rintro e w1 ⟨rfl,hb1⟩;have HB1:Hid (Below (w.alloc (Zv #[O Z 0,.int .u16 0] 76)).heap.size (w.alloc (Zv #[O Z 0,.int .u16 0] 76)) w1):=((Zb _ _).drew.trans hb1);clear hb1))
 obtain⟨s1,s2,s3,s4,s5,s6⟩:=HSS.out _ HB1.out
 go_wp2_with (first
  |(go_at_call 102;(with_reducible refine(HSZ.out _ HB1.out).mono ?_);rintro e w2 ⟨rfl,hw2'⟩;subst w2))
 clear s1 s2 s3 s4 s5 s6;go_region_held3 (fun W=>W.cell? ⟨bp,0,none⟩=some (Zs (some ⟨A.q,0,none⟩))/\W.cell? ⟨A.q,1,none⟩=some (O Z R.M)/\W.cell? ⟨A.q,2,none⟩=some (O Z R.C)/\W.cell? ⟨A.q,3,none⟩=some (O Z R.S)/\W.cell? ⟨A.q,4,none⟩=some (Zs (some ⟨A.wp,0,none⟩))/\W.cell? ⟨bp,1,none⟩=some (.slice pa us.length pc))
  (first|exact HSS.out _ HB1.out|exact HSS.out _ HB1.out.drew)
  (first
   |(go_at_call 102;(with_reducible refine(HSZ.out _ ?_).mono ?_);(first|exact HB1.out.drew|exact HB1.out);rintro e w2 ⟨rfl,hw2'⟩;subst w2)
   |(go_at_call 103;(with_reducible refine(HUS.out _ ?_).mono ?_);(first|exact HB1.out.drew|exact HB1.out);rintro e w2 ⟨rfl,hw2'⟩;subst w2))
 have HB1':=hid HB1.out.drew;obtain⟨s1,s2,s3,s4,s5,s6⟩:=HSS.out _ HB1'.out;have hlt1:=HB1'.out.size;have hlt0:(w.alloc (Zv #[O Z 0,.int .u16 0] 76)).heap.size=w.heap.size+1:=Zaa _ _;have HT1:=hid (HTB.out.below HB1'.out HTB.out.lt);have k0:w1.cell? ⟨w.heap.size,0,none⟩=some (O Z 0):=HT1.out.cell 0;have k1:w1.cell? ⟨w.heap.size,1,none⟩=some (.int .u16 0):=HT1.out.cell 1;have f0:w1.frozen? ⟨w.heap.size,0,none⟩=false:=HT1.out.free 0;have f1:w1.frozen? ⟨w.heap.size,1,none⟩=false:=HT1.out.free 1
 go_wp2_with (first
  |(go_at_call 53;(with_reducible refine(HEM.out _ HB1'.out).mono ?_);rintro e w7 ⟨rfl,R',vw',X',hem,hp7⟩;have HEMP:=hid hem;have hp7':=RPost.after (HB1'.out.mono (Za _)) hp7;have HP7:=hid hp7';have htb7:=hp7'.keep HTB.out htb (hlow.ne (Za _));have k0:w7.cell? ⟨w.heap.size,0,none⟩=some (O Z 0):=htb7.cell 0;have k1:w7.cell? ⟨w.heap.size,1,none⟩=some (.int .u16 0):=htb7.cell 1;have f0:=htb7.free 0;have f1:=htb7.free 1;have HT7:=hid htb7;clear hem hp7 hp7' htb7))
 focus
  have hF:=(HT7.out.set 0 (O Z 0)).set 1 (.int .u16 0)
  have r0:=hF.cell 0
  have r1:=hF.cell 1
  have HEND:=hid (HRR.out R' none vw' X' w7 (.inr ⟨by omega,HEMP.out⟩) HP7.out HT7.out)
  clear hF HT7 HP7 HEMP HRR HEM HUS HSZ HPM HSS HTB H HB1 HB1' HT1
 rotate_left
 focus
  have hF:=(HT1.out.set 0 (O Z 0)).set 1 (.int .u16 0)
  have r0:=hF.cell 0
  have r1:=hF.cell 1
  have HEND:=hid (HRR.out R lg _ X w1.drew (.inl ⟨by omega,rfl⟩) ⟨T,(H.out.below HB0.out).below HB1'.out,fun _ _=>rfl,Zm HB1'.out _⟩ HT1.out)
  clear hF HRR HEM HUS HSZ HPM HSS HTB H HB1 HB1' HT1
 rotate_left
 all_goals
  (try simp only [Exit.inBlock,Exit.then])
  refine bodyPost_ret (v:=.agg #[O Z 0,.int .u16 0]) ?_ rfl ⟨rfl,HEND.out⟩
  rw[Zai rfl]
  go_simp
  try rfl
open Go.RowKit
theorem Zim(h:RwIn w T A R lg vw X)(hz2:R.size≤2048)
  (bp:Nat) (pv rv xv:Value) (us:List (Int×List UInt8)) (hb:At w bp (batCells A pv rv xv) 120) (tb:T bp=0) (hp:PutSeg w pv us) (ok:BatchOk R.M R.C R.S us) (hfit:R.size<2*mostIn R.M (R.S*R.C) (tabAll R.M R.C us)+1):
  Calls Zw 56 #[Zs (some ⟨bp,0,none⟩)] w fun e w'=>e=Zu (.agg #[O Z 0,.int .u16 122])/\Below w.heap.size w w':=by
 have hb0:Below w.heap.size w (w.alloc (Zv #[O Z 0,.int .u16 0] 76)):=(Zb _ _).alloc (Za _) _;have htb:T w.heap.size=0:=Zae h.bay _ (Za _);have hlow:=h.low;have h0:=h.below hb0;obtain⟨pa,pc,rfl⟩:=hp.shape;have HTB:Hid (At (w.alloc (Zv #[O Z 0,.int .u16 0] 76)) w.heap.size #[O Z 0,.int .u16 0] 76):=At.new _ _ _;have HSS:Hid (∀W,Below (w.alloc (Zv #[O Z 0,.int .u16 0] 76)).heap.size (w.alloc (Zv #[O Z 0,.int .u16 0] 76)) W->W.cell? ⟨bp,0,none⟩=some (Zs (some ⟨A.q,0,none⟩))/\W.cell? ⟨A.q,1,none⟩=some (O Z R.M)/\W.cell? ⟨A.q,2,none⟩=some (O Z R.C)/\W.cell? ⟨A.q,3,none⟩=some (O Z R.S)/\W.cell? ⟨A.q,4,none⟩=some (Zs (some ⟨A.wp,0,none⟩))/\W.cell? ⟨bp,1,none⟩=some (.slice pa us.length pc)):=fun W hW=>
  ⟨((hb.below hb0 hb.lt).below hW (hb.below hb0 hb.lt).lt).cell 0,(h0.below hW).rw.cell 1,(h0.below hW).rw.cell 2,(h0.below hW).rw.cell 3,(h0.below hW).rw.cell 4,((hb.below hb0 hb.lt).below hW (hb.below hb0 hb.lt).lt).cell 1⟩
 have HPM:Hid (∀W,Below (w.alloc (Zv #[O Z 0,.int .u16 0] 76)).heap.size (w.alloc (Zv #[O Z 0,.int .u16 0] 76)) W->Calls Zw 24 #[.agg #[O Z R.M,O Z R.C,O Z R.S],.slice pa us.length pc] W fun e w'=>e=Zu (.tuple #[O Z (mostIn R.M (R.S*R.C) (tabAll R.M R.C us):Nat),.int .u16 0])/\Below W.heap.size W w'):=fun W hW=>Zll R.M R.C R.S _ us W ok ((hp.below hb0).below hW)
 have HSZ:Hid (∀W,Below (w.alloc (Zv #[O Z 0,.int .u16 0] 76)).heap.size (w.alloc (Zv #[O Z 0,.int .u16 0] 76)) W->Calls Zw 102 #[Zs (some ⟨A.wp,0,none⟩)] W fun e w'=>e=Zu (O Z (R.size:Nat))/\w'=W):=fun W hW=>Zo2 A.b R.M R.ep A.rp R.next 0 A.wp R.size R.tail R.used R.sure lg (h0.below hW).wal (h0.below hW).ring
 have HTE:Hid (∀W,Calls Zw 55 #[O Z 0,.int .u16 122] W fun e w'=>e=Zu (.agg #[O Z 0,.int .u16 122])/\Below W.heap.size W w'):=fun W=>Zg7 0 122 W (by decide)
 have hqlt:=h.rw.lt;have hblt:=hb.lt;have H:=hid h;have HB0:=hid hb0;have hmf:mostIn R.M (R.S*R.C) (tabAll R.M R.C us)≤512:=Zc2 ok.few;clear h hb0 h0 hb hp ok;generalize mostIn R.M (R.S*R.C) (tabAll R.M R.C us)=n at*;have hw1:IntKind.i64.wrap ((2:Int)*n)=((2*n:Nat):Int):=by rw[IntKind.wrap_i64];omega
 have hw2:IntKind.i64.wrap (((2*n:Nat):Int)+1)=((2*n+1:Nat):Int):=by rw[IntKind.wrap_i64];omega
 have hd1:decide ((R.size:Int)<((2*n+1:Nat):Int))=true:=by simp;omega
 have hd2:(R.size:Int)<2*(n:Int)+1:=by omega
 go_enter Tryz.func56,Tryz.ntmps56;have s0:=HSS.out _ (Zb _ _);obtain⟨s1,s2,s3,s4,s5,s6⟩:=s0;go_wp2;clear s1 s2 s3 s4 s5 s6;go_region_held3 (fun W=>W.cell? ⟨bp,0,none⟩=some (Zs (some ⟨A.q,0,none⟩))/\W.cell? ⟨A.q,1,none⟩=some (O Z R.M)/\W.cell? ⟨A.q,2,none⟩=some (O Z R.C)/\W.cell? ⟨A.q,3,none⟩=some (O Z R.S)/\W.cell? ⟨A.q,4,none⟩=some (Zs (some ⟨A.wp,0,none⟩))/\W.cell? ⟨bp,1,none⟩=some (.slice pa us.length pc))
  (first|exact HSS.out _ (Zb _ _)|exact HSS.out _ (Zb _ _).drew|exact HSS.out _ HB1.out)
  (first
   |(go_at_call 24;(with_reducible refine(HPM.out _ ?_).mono ?_);(exact(Zb _ _).drew);rintro e w1 ⟨rfl,hb1⟩;have HB1:Hid (Below (w.alloc (Zv #[O Z 0,.int .u16 0] 76)).heap.size (w.alloc (Zv #[O Z 0,.int .u16 0] 76)) w1):=((Zb _ _).drew.trans hb1);clear hb1))
 obtain⟨s1,s2,s3,s4,s5,s6⟩:=HSS.out _ HB1.out;have hlt1:=HB1.out.size;have hlt0:(w.alloc (Zv #[O Z 0,.int .u16 0] 76)).heap.size=w.heap.size+1:=Zaa _ _;have HT1:=hid (HTB.out.below HB1.out HTB.out.lt);have k0:w1.cell? ⟨w.heap.size,0,none⟩=some (O Z 0):=HT1.out.cell 0;have k1:w1.cell? ⟨w.heap.size,1,none⟩=some (.int .u16 0):=HT1.out.cell 1;have f0:w1.frozen? ⟨w.heap.size,0,none⟩=false:=HT1.out.free 0;have f1:w1.frozen? ⟨w.heap.size,1,none⟩=false:=HT1.out.free 1;have HBW1:Hid (Below w.heap.size w w1):=HB0.out.trans (HB1.out.mono HB0.out.size)
 go_wp2_with (first
  |(go_at_call 102;(with_reducible refine(HSZ.out _ HB1.out).mono ?_);rintro e w2 ⟨rfl,hw2'⟩;subst w2)
  |(go_at_call 55;(with_reducible refine(HTE.out _).mono ?_);rintro e w3 ⟨rfl,hb3⟩;have HT3:=hid (HT1.out.below hb3 HT1.out.lt);have HB3:=hid (HBW1.out.trans (hb3.mono HBW1.out.size));have k0:w3.cell? ⟨w.heap.size,0,none⟩=some (O Z 0):=HT3.out.cell 0;have k1:w3.cell? ⟨w.heap.size,1,none⟩=some (.int .u16 0):=HT3.out.cell 1;have f0:w3.frozen? ⟨w.heap.size,0,none⟩=false:=HT3.out.free 0;have f1:w3.frozen? ⟨w.heap.size,1,none⟩=false:=HT3.out.free 1;clear hb3))
 have hF:=(HT3.out.set 0 (O Z 0)).set 1 (.int .u16 122);have r0:=hF.cell 0;have r1:=hF.cell 1;have HEND:Hid (Below w.heap.size w ((w3.setCell ⟨w.heap.size,0,none⟩ (O Z 0)).setCell ⟨w.heap.size,1,none⟩ (.int .u16 122))):=(HB3.out.setCell (p:=⟨w.heap.size,0,none⟩) (Za _) _).setCell (p:=⟨w.heap.size,1,none⟩) (Za _) _;clear hF HT3 HSZ HPM HSS HTB H HB1 HT1 HB3;(try simp only [Exit.inBlock,Exit.then]);refine bodyPost_ret (v:=.agg #[O Z 0,.int .u16 122]) ?_ rfl ⟨rfl,HEND.out⟩;rw[Zai rfl];go_simp;try rfl
open Go.RowKit
theorem Zla:SliceOf Zw 214 4 1 1:=SliceOf.mk' (z:=.bool false) Tryz.underlying214 (by decide) (by kernel_rfl) rfl
def dnCells(d:Nat->Bool)(k M:Nat):Array Value:=((List.range M).map fun j=>Value.bool (if j<k then d j else false)).toArray
theorem Zjo(d:Nat->Bool){j:Nat}(h:j<M):(dnCells d k M)[j]?=some (.bool (if j<k then d j else false)):=by simp[dnCells,h]
theorem Znd(d:Nat->Bool)(M:Nat):(List.replicate (M*1) (Value.bool false)).toArray=dnCells d 0 M:=by
 unfold dnCells;congr 1;rw[Nat.mul_one];apply List.ext_getElem<;>simp
theorem Zm0(d:Nat->Bool)(h:k<M):(dnCells d k M).setIfInBounds k (.bool (d k))=dnCells d (k+1) M:=by
 apply Array.ext
 ·simp[dnCells]
 ·intro i h1 h2
  have hi:i<M:=by simpa [dnCells]using h2
  rw[Array.getElem_setIfInBounds (by simpa [dnCells]using h2)];by_cases e:k=i
  ·subst e;simp[dnCells]
  ·rw[Ze e]
   simp only [dnCells,List.getElem_toArray,List.getElem_map,List.getElem_range];by_cases h3:i<k
   ·rw[Zf h3,Zf (by omega)]
   ·rw[Ze h3,Ze (by omega)]
theorem Zjk{d:Nat->Bool}(h:At w g (dnCells d M M) 4):BSeg w (.slice (some ⟨g,0,none⟩) M M) d M:=
 ⟨_,_,rfl,.inr ⟨g,0,rfl,h.lt,fun j hj=>by
  rw[Nat.zero_add]
  refine(h.cell j).trans ?_
  rw[Zjo d hj,Zf hj]⟩⟩
theorem Zky(f:Nat->List Value)(n:Nat):∀m,elems f (n+m)=elems f n++elems (fun i=>f (n+i)) m
 |0=>by simp[elems]
 |m+1=>by
  rw[<-Nat.add_assoc,Zdg,Zky f n m,Zdg,List.append_assoc]
theorem Zsv(X Y:List OP):elems (fun i=>opCells ((X++Y).getD i op0)) (X++Y).length=elems (fun i=>opCells (X.getD i op0)) X.length++elems (fun i=>opCells (Y.getD i op0)) Y.length:=by
 rw[Zo,Zky];congr 1
 ·refine Zcx fun j hj=> ?_
  show opCells ((X++Y).getD j op0)=opCells (X.getD j op0)
  rw[Zi,List.getElem?_append_left hj,<-Zi]
 ·refine Zcx fun j hj=> ?_
  show opCells ((X++Y).getD (X.length+j) op0)=opCells (Y.getD j op0)
  rw[Zi,List.getElem?_append_right (by omega),Nat.add_sub_cancel_left,<-Zi]
theorem ORow.app{w5:World}{v' u:Value}{Y:List OP}(h:ORow w B v X)(hY:ORow w B u Y)(hc:Chg (fun g=>v.ownBlock=some g) w w5)
  (hap:∀x∈X,∀y∈Y,∀g,x.2.ownBlock=some g->y.2.ownBlock≠some g)
  (hrow:w5.ownsRow B 167 3 v' (X.length+Y.length) (elems (fun i=>opCells (X.getD i op0)) X.length++elems (fun i=>opCells (Y.getD i op0)) Y.length)):ORow w5 B v' (X++Y):=by
 refine⟨?_,fun y hy=> ?_,?_⟩
 ·rw[Zsv,Zo]
  exact hrow
 ·rcases List.mem_append.1 hy with hy|hy
  ·exact Zad (h.dat y hy) hc (fun g hg e=>Zbl (h.dat y hy) h.row (by decide) e hg)
  ·exact Zad (hY.dat y hy) hc (fun g hg e=>Zbl (hY.dat y hy) h.row (by decide) e hg)
 ·rw[List.pairwise_append]
  exact⟨h.apart,hY.apart,fun x hx y hy=>hap x hx y hy⟩
theorem ORow.cells{a:Option Addr}{c:Nat}(h:ORow w B (.slice a n c) X):∀ad,a=some ad->∀j u,(elems (fun i=>opCells (X.getD i op0)) X.length)[j]?=some u->w.cell? (ad.add j)=some u:=by
 intro ad ha j u hj;subst ha;have hr:=h.row;obtain⟨hl,h0⟩:=hr;rcases h0 with ⟨e,-⟩|⟨g,cap,cur,e,hB,hg,hcap,hm,hsz,htk⟩
 ·cases e
 ·simp only [Zn,Zg]at e
  obtain⟨rfl,-,-⟩:=e;rw[Addr.add_mid,Nat.zero_add];have hj2:j<X.length*3:=by
   rw[<-hl];exact(List.getElem?_eq_some_iff.1 hj).1
  have hA:At w g cur 167:=hg;refine(hA.cell j).trans ?_;rw[<-htk,List.getElem?_take_of_lt hj2,Array.getElem?_toList]at hj;exact hj
theorem Znz(X:List OP)(hX:∀x∈X,x.2.oneCell'=true):∀u∈elems (fun i=>opCells (X.getD i op0)) X.length,u.oneCell'=true:=by
 intro u hu;unfold elems at hu;rw[List.mem_flatMap]at hu;obtain⟨i,hi,hu⟩:=hu;have hi:i<X.length:=List.mem_range.1 hi;simp only [opCells,List.mem_cons,List.not_mem_nil,or_false]at hu;rcases hu with rfl|rfl|rfl
 ·rfl
 ·rfl
 ·have e:X.getD i op0=X[i]:=by rw[Zi,Zh hi];rfl
  rw[e];exact hX _ (Zj hi)
theorem RwIn.keepS{S:Nat->Prop}{w2:World}(k1:RwIn w1 T A R lg vw X)(hc:Chg S w1 w2)(hT:∀q,S q->T q=0)(hA:∀q,S q->¬A.has q)(hv:∀q,S q->vw.ownBlock≠some q)(hx:∀x∈X,∀q,S q->x.2.ownBlock≠some q):RwIn w2 T A R lg vw X:=
 ⟨k1.bay.keep hc (fun k hk e=>hk (hT k e)),k1.rw.mod hc (fun e=>hA _ e (.inl rfl)),k1.fr.mod hc (fun e=>hA _ e (.inr (.inr (.inr rfl)))),k1.wt.mod hc (fun g hg e=>hv g e hg) (fun x hxx g hg e=>hx x hxx g e hg),k1.wtT,k1.wtX,k1.wtM,k1.wal.mod hc (fun e=>hA _ e (.inr (.inl rfl))),k1.ring.mod hc (fun e=>hA _ e (.inr (.inr (.inl rfl)))),k1.tq,k1.tf,k1.tw,k1.tr⟩
theorem RwIn.offAt(k1:RwIn w1 T A R lg vw X){cs:Array Value}{t:TypeId}(ha:At w1 g cs t)(h1:116≠t)(h2:3≠t)(h3:148≠t)(h4:190≠t):¬A.has g:=by
 rintro (e|e|e|e)
 ·exact Zaw k1.rw ha h1 e.symm
 ·exact Zaw k1.wal ha h3 e.symm
 ·exact Zaw k1.ring ha h4 e.symm
 ·exact Zaw k1.fr ha h2 e.symm
theorem RwIn.offOwn(k1:RwIn w1 T A R lg vw X){xs:List Value}(hr:w1.ownsRow B 167 3 v n xs)(hg:v.ownBlock=some g):¬A.has g:=by
 rintro (e|e|e|e)
 ·exact Zah hr k1.rw (by decide) (by rw[hg,e])
 ·exact Zah hr k1.wal (by decide) (by rw[hg,e])
 ·exact Zah hr k1.ring (by decide) (by rw[hg,e])
 ·exact Zah hr k1.fr (by decide) (by rw[hg,e])
structure RoAt (wb wr:World) (T:Nat->Nat) (A:Adr) (R:RS) (lg:Option Nat) (vw:Value) (X:List OP) (g:Nat) (F:Nat->List UInt8):Prop where
 rw:RwIn wr T A R lg vw X
 rows:RowsOf wr g R.M F (fun k=>T k≠0)
 chg:Chg (fun k=>T k≠0) wb wr
 ttg:T g=0
 hi:wb.heap.size≤g
theorem RoAt.below(h:RoAt wb wr T A R lg vw X g F)(hb:Below wr.heap.size wr wy):RoAt wb wy T A R lg vw X g F:=
 ⟨h.rw.below hb,h.rows.below hb,h.chg.trans (Zm hb _),h.ttg,h.hi⟩
theorem RoAt.sec(h:RoAt wb wr T A R lg vw X g F){s':BaySt}(hr:RwIn wy T A {R with s:=s'} lg vw X)(hc:Chg (fun k=>T k≠0) wr wy):RoAt wb wy T A {R with s:=s'} lg vw X g F:=
 ⟨hr,h.rows.chg hc (fun e=>e h.ttg) (fun k hk=>hk),h.chg.trans hc,h.ttg,h.hi⟩
theorem RoAt.put(h:RoAt wb wr T A R lg vw X g F)(k:Nat)(hk:k<R.M){d:Sec}(ho:wr.ownsRow B 5 1 v 128 (ucells d))(hd:d.length=128)(hB:∀q,T q≠0->q<B):
  RoAt wb (wr.setCell ⟨g,k,none⟩ v) T A R lg vw X g (fun i=>if i=k then d else F i):=by
 obtain⟨U,hU,-⟩:=id h.rows;have hst:Chg (fun q=>q=g) wr (wr.setCell ⟨g,k,none⟩ v):=Zk (S:=fun q=>q=g) (Zl _ _) ⟨g,k,none⟩ (.inl rfl) _;have hsg:Seg wr v d:=Zao (base:=B) (by rw[hd];exact ho);have hr:=h.rw;have hq1:=Zaw hr.rw hU (by decide);have hq2:=Zaw hr.fr hU (by decide);have hq3:=Zaw hr.wal hU (by decide);have hq4:=Zaw hr.ring hU (by decide);refine⟨⟨hr.bay.keep hst (fun q hq e=>hq (by rw[e];exact h.ttg)),hr.rw.mod hst hq1,hr.fr.mod hst hq2,hr.wt.mod hst (fun q hq e=>hr.wOff hU (by decide) (by rw[hq,e])) (fun x hx q hq e=>hr.xOff hU (by decide) x hx (by rw[hq,e])),hr.wtT,hr.wtX,hr.wtM,hr.wal.mod hst hq3,hr.ring.mod hst hq4,hr.tq,hr.tf,hr.tw,hr.tr⟩,h.rows.set hk hsg (Off.own ho hB),?_,h.ttg,h.hi⟩;exact Zaj h.chg hst (fun q hq e=>by have:=h.hi;omega)
theorem RoAt.box(hc:Chg (fun k=>T k≠0) (wr.alloc (Zv #[O Z 0,.int .u16 0] 76)).drew w8)(hv:T wr.heap.size=0):At w8 wr.heap.size #[O Z 0,.int .u16 0] 76:=by
 have h:At (wr.alloc (Zv #[O Z 0,.int .u16 0] 76)).drew wr.heap.size #[O Z 0,.int .u16 0] 76:=At.new wr _ _;exact h.mod hc (fun e=>e hv)
theorem RoAt.next{R':RS}(h:RoAt wb wr T A R lg vw X g F)(hr:RwIn w8 T A R' lg vw X)(hM:R'.M=R.M)(hc:Chg (fun k=>T k≠0) (wr.alloc (Zv #[O Z 0,.int .u16 0] 76)).drew w8)(hv:T wr.heap.size=0):RoAt wb ((w8.setCell ⟨wr.heap.size,0,none⟩ (O Z 0)).setCell ⟨wr.heap.size,1,none⟩ (.int .u16 0)) T A R' lg vw X g F:=by
 have hb:Below wr.heap.size wr (wr.alloc (Zv #[O Z 0,.int .u16 0] 76)).drew:=((Zb _ _).alloc (Za _) _).drew;have hc1:Chg (fun k=>T k≠0) wr w8:=(Zm hb _).trans hc;have hbx:=RoAt.box hc hv;have h2:=box2 w8 wr.heap.size (O Z 0) (.int .u16 0);have hlt:=h.rows.lt;have hsz:=h.chg.size;refine⟨hr.box hbx hv h2,?_,Zaj (h.chg.trans hc1) h2 (fun q hq e=>by omega),h.ttg,h.hi⟩;rw[hM];exact(((h.rows.more (Y:=fun k=>T k≠0\/k=wr.heap.size) (fun k hk=>hk.elim .inl (fun e=>.inr (by omega)))).chg hc1 (fun e=>e h.ttg) (fun k hk=>.inl hk)).chg h2 (by omega) (fun k hk=>.inr hk)).less (fun k hk=>.inl hk)
theorem RS.others_s(R:RS)(s':BaySt)(m r:Nat):∀k,({R with s:=s'}:RS).others m r k=R.others m r k
 |0=>rfl
 |k+1=>by
  show(if k=m then _ else _+R.one k r)=if k=m then _ else _+R.one k r
  rw[R.others_s s' m r k]
theorem RS.rc_s(R:RS)(s':BaySt)(m r:Nat):({R with s:=s'}:RS).rc m r=R.rc m r:=by
 unfold RS.rc;rw[R.others_s s' m r];rfl
def RS.rcs(R:RS)(r:Nat)(L:List Nat):Nat:=(L.map fun m=>R.rc m r).sum
theorem RS.rcs_snoc(R:RS)(r:Nat)(L:List Nat)(m:Nat):R.rcs r (L++ [m])=R.rcs r L+R.rc m r:=by simp[RS.rcs]
theorem RS.rcs_le(R:RS)(r:Nat):∀L:List Nat,R.rcs r L≤L.length*(R.M+1)
 | []=>by simp[RS.rcs]
 |m::L=>by
  have ih:=R.rcs_le r L;have:=R.rc_le m r;unfold RS.rcs at ih ⊢;rw[List.map_cons,List.sum_cons,List.length_cons,Nat.add_mul,Nat.one_mul];omega
end Go.Proofs.YtmemlkmnhcealaaGreat
