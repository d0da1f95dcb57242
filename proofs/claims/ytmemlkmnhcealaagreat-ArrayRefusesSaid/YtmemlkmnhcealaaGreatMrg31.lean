
/- Several texts in one: RxF, RxG, RxH, PlwP, PlzC, RlD, PlyS. -/
import Derived.Test.YtmemlkmnhcealaaGreatRxE
set_option linter.unusedVariables false
set_option maxRecDepth 100000
set_option maxHeartbeats 16000000
namespace Go.Proofs.YtmemlkmnhcealaaGreat
open Value renaming int→O,pointer→Zs,slice→Zt
open IntKind renaming i64→Z
open Ending renaming returned→Zu
open Obj renaming cells→Zv
open Go.Proofs.Tryz renaming prog→Zw
open Go.RowKit
open Lib(hid)
variable {A:Adr} {X:List OP} {a b:Nat} {T:Nat->Nat} {lg:Option Nat} {R:RS} {vw:Value} {w:World}
theorem Zj0(h:RwIn w T A R lg vw X)(pv:Value)(us:List (Int×List UInt8))(hp:∀W,Chg (fun q=>q=A.q) w W->PutSeg W pv us)(k:Nat)(hk:splitCode R.M R.C R.S us=(k:Int))(hk0:k≠0):
  Calls Zw 25 #[Zs (some ⟨A.q,0,none⟩),pv] w fun e w'=>e=Zu (.agg #[O Z 0,.int .u16 k])/\RPost w T A R.fresh lg vw X w':=by
 obtain⟨W1,hW1,h1,hst,e1,hB1⟩:=Zeg h;have HB1:=hid hB1;have hpW:=hp _ hst;obtain⟨pa,pc,rfl⟩:=hpW.shape;have HVG:Hid (∀q,w.heap.size≤q->T q=0):=fun q hq=>Zae h.bay q hq
 have f8:=h.rw.free 8;have c8:w.cell? ⟨A.q,8,none⟩=some (.bool R.sealed):=h.rw.cell 8;have b1:w.cell? ⟨A.q,1,none⟩=some (O Z R.M):=h.rw.cell 1;have b2:w.cell? ⟨A.q,2,none⟩=some (O Z R.C):=h.rw.cell 2;have b3:w.cell? ⟨A.q,3,none⟩=some (O Z R.S):=h.rw.cell 3;have hqlt:=h.rw.lt;have HEND:Hid (∀(W:World) (u v:Value),Below W1.heap.size W1 W->At W w.heap.size #[O Z 0,.int .u16 0] 76->RPost w T A R.fresh lg vw X ((W.setCell ⟨w.heap.size,0,none⟩ u).setCell ⟨w.heap.size,1,none⟩ v)):=fun W u v hb hx=>
  ⟨T,(h1.below hb).box hx (HVG.out _ (Za _)) (box2 _ _ _ _),fun _ _=>rfl,Zaj ((hst.mono (fun q e=>.inr (.inl e))).trans (Zm hb _)) (box2 W w.heap.size u v) (fun q hq e=>by omega)⟩
 have HSP:Hid (Calls Zw 54 #[.agg #[O Z R.M,O Z R.C,O Z R.S],Zt pa us.length pc] W1 fun e w'=>e=Zu (.tuple #[Zt none 0 0,.int .u16 k])/\Below W1.heap.size W1 w'):=by
  have:=Zka R.M R.C R.S _ us _ hpW (by rw[hk];omega);rw[hk]at this;exact this
 have HTR:Hid (∀W,Calls Zw 55 #[O Z 0,.int .u16 k] W fun e w'=>e=Zu (.agg #[O Z 0,.int .u16 k])/\Below W.heap.size W w'):=fun W=>Zg7 0 k W hk0
 have hkk:((k:Int)==0)=false:=by simp;omega
 have hkn:((k:Int) !=0)=true:=by simp;omega
 clear h hB1 h1 hst hpW hp hk;subst hW1;go_enter Tryz.func25,Tryz.ntmps25
 go_wp2_with (first
  |(go_at_call 54;(with_reducible refine HSP.out.mono ?_);rintro e w2 ⟨rfl,hb2⟩;have HB2:=hid hb2;clear hb2)
  |(go_at_call 55;(with_reducible refine(HTR.out w2).mono ?_);rintro e w3 ⟨rfl,hb3⟩;have HB3:=hid (HB2.out.trans (hb3.mono HB2.out.size));clear hb3;have hx3:=HB1.out.below HB3.out HB1.out.lt;have HE:Hid (RPost w T A R.fresh lg vw X ((w3.setCell ⟨w.heap.size,0,none⟩ (O Z 0)).setCell ⟨w.heap.size,1,none⟩ (.int .u16 k))):=HEND.out w3 _ _ HB3.out hx3;have k0:w3.cell? ⟨w.heap.size,0,none⟩=some (O Z 0):=hx3.cell 0;have k1:w3.cell? ⟨w.heap.size,1,none⟩=some (.int .u16 0):=hx3.cell 1;have f0:=hx3.free 0;have f1:=hx3.free 1;have hlt3:=hx3.lt;have hF:=(hx3.set 0 (O Z 0)).set 1 (.int .u16 k);have r0:=hF.cell 0;have r1:=hF.cell 1;clear hF hx3))
 (try simp only [Exit.inBlock,Exit.then]);refine bodyPost_ret (v:=.agg #[O Z 0,.int .u16 k]) ?_ rfl ⟨rfl,HE.out⟩;rw[Zai rfl];go_simp;try rfl
theorem Zio(h:RwIn w T A R lg vw X)(pv:Value)(hp:∀W,Chg (fun q=>q=A.q) w W->PutSeg W pv [])(ok:BatchOk R.M R.C R.S []):
  Calls Zw 25 #[Zs (some ⟨A.q,0,none⟩),pv] w fun e w'=>e=Zu (.agg #[O Z 0,.int .u16 0])/\RPost w T A R.fresh lg vw X w':=by
 obtain⟨W1,hW1,h1,hst,e1,hB1⟩:=Zeg h;have HB1:=hid hB1;have hpW:=hp _ hst;obtain⟨pa,pc,hpv⟩:=hpW.shape;rw[List.length_nil]at hpv;subst hpv;have HVG:Hid (∀q,w.heap.size≤q->T q=0):=fun q hq=>Zae h.bay q hq
 have f8:=h.rw.free 8;have c8:w.cell? ⟨A.q,8,none⟩=some (.bool R.sealed):=h.rw.cell 8;have b1:w.cell? ⟨A.q,1,none⟩=some (O Z R.M):=h.rw.cell 1;have b2:w.cell? ⟨A.q,2,none⟩=some (O Z R.C):=h.rw.cell 2;have b3:w.cell? ⟨A.q,3,none⟩=some (O Z R.S):=h.rw.cell 3;have hqlt:=h.rw.lt;have HEND:Hid (∀(W:World) (u v:Value),Below W1.heap.size W1 W->At W w.heap.size #[O Z 0,.int .u16 0] 76->RPost w T A R.fresh lg vw X ((W.setCell ⟨w.heap.size,0,none⟩ u).setCell ⟨w.heap.size,1,none⟩ v)):=fun W u v hb hx=>
  ⟨T,(h1.below hb).box hx (HVG.out _ (Za _)) (box2 _ _ _ _),fun _ _=>rfl,Zaj ((hst.mono (fun q e=>.inr (.inl e))).trans (Zm hb _)) (box2 W w.heap.size u v) (fun q hq e=>by omega)⟩
 have HSP:Hid (Calls Zw 54 #[.agg #[O Z R.M,O Z R.C,O Z R.S],Zt pa 0 pc] W1 fun e w'=>(∃ra rc,e=Zu (.tuple #[Zt ra 0 rc,.int .u16 0]))/\Below W1.heap.size W1 w'):=by
  refine(Zdw R.M R.C R.S _ [] _ ok hpW).mono ?_;rintro e w' ⟨⟨v',L,rfl,hL,hI⟩,hb⟩;obtain⟨ra,rc,rfl⟩:=Zab hL.row;have hl:L.length=0:=by
   have h1:=congrArg List.length hI;rw[Zp,Zp]at h1;rw[h1];have h2:rowsIn R.M (R.S*R.C) (tabAll R.M R.C [])= []:=by
    rw[List.eq_nil_iff_forall_not_mem];intro r hr;obtain⟨-,hh⟩:=Zbd.1 hr;obtain⟨m,-,hs⟩:=Zmt hh;cases hs
   rw[h2];rfl
  exact⟨⟨ra,rc,by rw[hl]⟩,hb⟩
 have HTR:Hid (∀W,Calls Zw 55 #[O Z 0,.int .u16 0] W fun e w'=>e=Zu (.agg #[O Z 0,.int .u16 0])/\Below W.heap.size W w'):=fun W=>Zdf 0 W
 clear h hB1 h1 hst hpW hp;subst hW1;go_enter Tryz.func25,Tryz.ntmps25
 go_wp2_with (first
  |(go_at_call 54;(with_reducible refine HSP.out.mono ?_);rintro e w2 ⟨⟨ra,rc,rfl⟩,hb2⟩;have HB2:=hid hb2;clear hb2)
  |(go_at_call 55;(with_reducible refine(HTR.out w2).mono ?_);rintro e w3 ⟨rfl,hb3⟩;have HB3:=hid (HB2.out.trans (hb3.mono HB2.out.size));clear hb3;have hx3:=HB1.out.below HB3.out HB1.out.lt;have HE:Hid (RPost w T A R.fresh lg vw X ((w3.setCell ⟨w.heap.size,0,none⟩ (O Z 0)).setCell ⟨w.heap.size,1,none⟩ (.int .u16 0))):=HEND.out w3 _ _ HB3.out hx3;have k0:w3.cell? ⟨w.heap.size,0,none⟩=some (O Z 0):=hx3.cell 0;have k1:w3.cell? ⟨w.heap.size,1,none⟩=some (.int .u16 0):=hx3.cell 1;have f0:=hx3.free 0;have f1:=hx3.free 1;have hlt3:=hx3.lt;have hF:=(hx3.set 0 (O Z 0)).set 1 (.int .u16 0);have r0:=hF.cell 0;have r1:=hF.cell 1;clear hF hx3))
 (try simp only [Exit.inBlock,Exit.then]);refine bodyPost_ret (v:=.agg #[O Z 0,.int .u16 0]) ?_ rfl ⟨rfl,HE.out⟩;rw[Zai rfl];go_simp;try rfl
open Go.RowKit
theorem Zgt(h:RwIn w T A R lg vw X)(hz2:R.size≤2048)(pv:Value)(us:List (Int×List UInt8))(hp:∀W,Chg (fun q=>q=A.q) w W->PutSeg W pv us)(ok:BatchOk R.M R.C R.S us)(hu:us≠ [])(hfit:R.size<2*mostIn R.M (R.S*R.C) (tabAll R.M R.C us)+1):
  Calls Zw 25 #[Zs (some ⟨A.q,0,none⟩),pv] w fun e w'=>e=Zu (.agg #[O Z 0,.int .u16 122])/\RPost w T A R.fresh lg vw X w':=by
 obtain⟨W1,hW1,h1,hst,e1,hB1⟩:=Zeg h;have HB1:=hid hB1;have hpW:=hp _ hst;obtain⟨pa,pc,rfl⟩:=hpW.shape;have HVG:Hid (∀q,w.heap.size≤q->T q=0):=fun q hq=>Zae h.bay q hq
 have f8:=h.rw.free 8;have c8:w.cell? ⟨A.q,8,none⟩=some (.bool R.sealed):=h.rw.cell 8;have b1:w.cell? ⟨A.q,1,none⟩=some (O Z R.M):=h.rw.cell 1;have b2:w.cell? ⟨A.q,2,none⟩=some (O Z R.C):=h.rw.cell 2;have b3:w.cell? ⟨A.q,3,none⟩=some (O Z R.S):=h.rw.cell 3;have hqlt:=h.rw.lt;have HEND:Hid (∀(W:World) (u v:Value),Below W1.heap.size W1 W->At W w.heap.size #[O Z 0,.int .u16 0] 76->RPost w T A R.fresh lg vw X ((W.setCell ⟨w.heap.size,0,none⟩ u).setCell ⟨w.heap.size,1,none⟩ v)):=fun W u v hb hx=>
  ⟨T,(h1.below hb).box hx (HVG.out _ (Za _)) (box2 _ _ _ _),fun _ _=>rfl,Zaj ((hst.mono (fun q e=>.inr (.inl e))).trans (Zm hb _)) (box2 W w.heap.size u v) (fun q hq e=>by omega)⟩
 have HR1:=hid h1;have HPW:=hid hpW;have HOK:=hid ok;have HZ2:=hid hz2;have HFIT:=hid hfit;have HSPX:Hid (∀K:Ending->World->Prop,(∀ra rc L w2,Hid (Below W1.heap.size W1 w2)->((L.length:Int)==0)=false->L.length≤4096->K (Zu (.tuple #[.slice ra (L:List (Value×List OP)).length rc,.int .u16 0])) w2)->Calls Zw 54 #[.agg #[O Z R.M,O Z R.C,O Z R.S],Zt pa us.length pc] W1 K):=fun K hK=>by
  refine(Zdw R.M R.C R.S _ us _ ok hpW).mono ?_;rintro e w2 ⟨⟨rv,L,rfl,hL,hI⟩,hb2⟩;obtain⟨ra,rc,rfl⟩:=Zab hL.row;have h1:=congrArg List.length hI;rw[Zp,Zp]at h1;have h0:0<L.length:=by rw[h1];exact List.length_pos_iff.2 (Zed ok hu)
  have h2:=Zcy (R:=R) ok.few;have h3:(batRows R us).length=(rowsIn R.M (R.S*R.C) (tabAll R.M R.C us)).length:=rfl;exact hK ra rc L w2 (hid hb2) (beq_eq_false_iff_ne.2 (by omega)) (by omega)
 clear h hB1 h1 hst hpW hp ok hu hz2 hfit;subst hW1;go_enter Tryz.func25,Tryz.ntmps25
 go_wp2_with (first
  |(go_at_call 54;(with_reducible refine HSPX.out _ ?_);intro ra rc L w2 HB2 hne hlf;have hqlt2:=HB2.out.size))
 clear c8 b1 b2 b3 f8 HSPX;have es:(w2.alloc (Zv #[Zs (some ⟨A.q,0,none⟩),Zt pa us.length pc,Zt ra L.length rc,Zt none 0 0] 120)).heap.size=w2.heap.size+1:=Zaa _ _;have hbb:Below w2.heap.size w2 ((w2.alloc (Zv #[Zs (some ⟨A.q,0,none⟩),Zt pa us.length pc,Zt ra L.length rc,Zt none 0 0] 120)).alloc (Zv #[.func (.func 56) #[Zs (some ⟨w2.heap.size,0,none⟩)] #[],.func (.func 57) #[Zs (some ⟨w2.heap.size,0,none⟩)] #[],.func (.func 58) #[Zs (some ⟨w2.heap.size,0,none⟩)] #[],.func (.func 59) #[Zs (some ⟨w2.heap.size,0,none⟩)] #[],.func (.func 60) #[Zs (some ⟨w2.heap.size,0,none⟩)] #[],.func (.func 61) #[Zs (some ⟨w2.heap.size,0,none⟩)] #[]] 81)):=((Zb _ _).alloc (Za _) _).alloc (by rw[es];omega) _;have HBC:=hid (HB2.out.trans (hbb.mono hqlt2));have HRM:Hid (Calls Zw 56 #[Zs (some ⟨w2.heap.size,0,none⟩)] ((w2.alloc (Zv #[Zs (some ⟨A.q,0,none⟩),Zt pa us.length pc,Zt ra L.length rc,Zt none 0 0] 120)).alloc (Zv #[.func (.func 56) #[Zs (some ⟨w2.heap.size,0,none⟩)] #[],.func (.func 57) #[Zs (some ⟨w2.heap.size,0,none⟩)] #[],.func (.func 58) #[Zs (some ⟨w2.heap.size,0,none⟩)] #[],.func (.func 59) #[Zs (some ⟨w2.heap.size,0,none⟩)] #[],.func (.func 60) #[Zs (some ⟨w2.heap.size,0,none⟩)] #[],.func (.func 61) #[Zs (some ⟨w2.heap.size,0,none⟩)] #[]] 81)) fun e w'=>e=Zu (.agg #[O Z 0,.int .u16 122])/\Below ((w2.alloc (Zv #[Zs (some ⟨A.q,0,none⟩),Zt pa us.length pc,Zt ra L.length rc,Zt none 0 0] 120)).alloc (Zv #[.func (.func 56) #[Zs (some ⟨w2.heap.size,0,none⟩)] #[],.func (.func 57) #[Zs (some ⟨w2.heap.size,0,none⟩)] #[],.func (.func 58) #[Zs (some ⟨w2.heap.size,0,none⟩)] #[],.func (.func 59) #[Zs (some ⟨w2.heap.size,0,none⟩)] #[],.func (.func 60) #[Zs (some ⟨w2.heap.size,0,none⟩)] #[],.func (.func 61) #[Zs (some ⟨w2.heap.size,0,none⟩)] #[]] 81)).heap.size ((w2.alloc (Zv #[Zs (some ⟨A.q,0,none⟩),Zt pa us.length pc,Zt ra L.length rc,Zt none 0 0] 120)).alloc (Zv #[.func (.func 56) #[Zs (some ⟨w2.heap.size,0,none⟩)] #[],.func (.func 57) #[Zs (some ⟨w2.heap.size,0,none⟩)] #[],.func (.func 58) #[Zs (some ⟨w2.heap.size,0,none⟩)] #[],.func (.func 59) #[Zs (some ⟨w2.heap.size,0,none⟩)] #[],.func (.func 60) #[Zs (some ⟨w2.heap.size,0,none⟩)] #[],.func (.func 61) #[Zs (some ⟨w2.heap.size,0,none⟩)] #[]] 81)) w'):=Zim (HR1.out.below HBC.out) HZ2.out w2.heap.size (Zt pa us.length pc) (Zt ra L.length rc) (Zt none 0 0) us ((At.new w2 _ _).alloc _) (HVG.out _ (by rw[e1]at hqlt2;omega)) (HPW.out.below HBC.out) HOK.out HFIT.out;have hat:At ((w2.alloc (Zv #[Zs (some ⟨A.q,0,none⟩),Zt pa us.length pc,Zt ra L.length rc,Zt none 0 0] 120)).alloc (Zv #[.func (.func 56) #[Zs (some ⟨w2.heap.size,0,none⟩)] #[],.func (.func 57) #[Zs (some ⟨w2.heap.size,0,none⟩)] #[],.func (.func 58) #[Zs (some ⟨w2.heap.size,0,none⟩)] #[],.func (.func 59) #[Zs (some ⟨w2.heap.size,0,none⟩)] #[],.func (.func 60) #[Zs (some ⟨w2.heap.size,0,none⟩)] #[],.func (.func 61) #[Zs (some ⟨w2.heap.size,0,none⟩)] #[]] 81)) (w2.heap.size+1) #[.func (.func 56) #[Zs (some ⟨w2.heap.size,0,none⟩)] #[],.func (.func 57) #[Zs (some ⟨w2.heap.size,0,none⟩)] #[],.func (.func 58) #[Zs (some ⟨w2.heap.size,0,none⟩)] #[],.func (.func 59) #[Zs (some ⟨w2.heap.size,0,none⟩)] #[],.func (.func 60) #[Zs (some ⟨w2.heap.size,0,none⟩)] #[],.func (.func 61) #[Zs (some ⟨w2.heap.size,0,none⟩)] #[]] 81:=by
  rw[<-es];exact At.new _ _ _
 have hcl:((w2.alloc (Zv #[Zs (some ⟨A.q,0,none⟩),Zt pa us.length pc,Zt ra L.length rc,Zt none 0 0] 120)).alloc (Zv #[.func (.func 56) #[Zs (some ⟨w2.heap.size,0,none⟩)] #[],.func (.func 57) #[Zs (some ⟨w2.heap.size,0,none⟩)] #[],.func (.func 58) #[Zs (some ⟨w2.heap.size,0,none⟩)] #[],.func (.func 59) #[Zs (some ⟨w2.heap.size,0,none⟩)] #[],.func (.func 60) #[Zs (some ⟨w2.heap.size,0,none⟩)] #[],.func (.func 61) #[Zs (some ⟨w2.heap.size,0,none⟩)] #[]] 81)).cell? ⟨w2.heap.size+1,0,none⟩=some (.func (.func 56) #[Zs (some ⟨w2.heap.size,0,none⟩)] #[]):=hat.cell 0;have hcll:=hat.lt;clear hat HR1 HPW HOK HZ2 HFIT hbb;obtain⟨WC,hWC⟩:∃WC,WC=((w2.alloc (Zv #[Zs (some ⟨A.q,0,none⟩),Zt pa us.length pc,Zt ra L.length rc,Zt none 0 0] 120)).alloc (Zv #[.func (.func 56) #[Zs (some ⟨w2.heap.size,0,none⟩)] #[],.func (.func 57) #[Zs (some ⟨w2.heap.size,0,none⟩)] #[],.func (.func 58) #[Zs (some ⟨w2.heap.size,0,none⟩)] #[],.func (.func 59) #[Zs (some ⟨w2.heap.size,0,none⟩)] #[],.func (.func 60) #[Zs (some ⟨w2.heap.size,0,none⟩)] #[],.func (.func 61) #[Zs (some ⟨w2.heap.size,0,none⟩)] #[]] 81)):=⟨_,rfl⟩;rw[<-hWC]at HBC HRM hcl hcll;go_wp2;rw[<-hWC];clear hWC;go_loopw [51] (fun q wr=>q=O Z 0/\wr=WC) (fun q _=>0);case atStart=>exact⟨rfl,rfl⟩
 case round=>
  obtain⟨rfl,rfl⟩:=hrel
  go_wp2_with (first
   |(go_at_call 56;(with_reducible refine HRM.out.mono ?_);rintro e w3 ⟨rfl,hb3⟩;have HB3:=hid ((HBC.out.trans (hb3.mono HBC.out.size)).alloc (HBC.out.trans (hb3.mono HBC.out.size)).size (Zv #[O Z 0,.int .u16 122] 76));have hN3:=At.new w3 #[O Z 0,.int .u16 122] 76;have m0:=hN3.cell 0;have m1:=hN3.cell 1;have m2:=hN3.lt;have hx3:=HB1.out.below HB3.out HB1.out.lt;have HE:=hid (HEND.out (w3.alloc (Zv #[O Z 0,.int .u16 122] 76)) (O Z 0) (.int .u16 122) HB3.out hx3);have k0:=hx3.cell 0;have k1:=hx3.cell 1;have f0:=hx3.free 0;have f1:=hx3.free 1;have hlt3:=hx3.lt;have hF:=(hx3.set 0 (O Z 0)).set 1 (.int .u16 122);have r0:=hF.cell 0;have r1:=hF.cell 1;clear hF hx3 hN3 hb3))
  (try simp only [Exit.inBlock,Exit.then]);refine bodyPost_ret (v:=.agg #[O Z 0,.int .u16 122]) ?_ rfl ⟨rfl,HE.out⟩;rw[Zai rfl];go_simp;try rfl
open Go.RowKit
structure LAt (w0 W:World) (T:Nat->Nat) (A:Adr) (R:RS) (V:Nat->Nat->Sec):Prop where
 rw:∃lg vw X,RwIn W T A R lg vw X
 good:Good R V
 idle:R.lazy=true\/R.wait= []
 old:∀q,q<w0.heap.size->T q=0/\¬A.has q
 bel:Below w0.heap.size w0 W
structure Stp (W:World) (T:Nat->Nat) (A:Adr) (w':World) (T':Nat->Nat):Prop where
 tags:∀q,q<W.heap.size->T' q=T q
 chg:Chg (fun q=>T q≠0\/A.has q) W w'
structure Bud (R:RS) (a b:Nat):Prop where
 c0:R.s.cnt 0≤a
 c1:R.s.cnt 1≤a
 c2:R.s.cnt 2≤a
 next:R.next≤a+1
 small:∃m,R.s.small m/\m+R.wait.length≤b
structure Same (R R':RS):Prop where
 M:R'.M=R.M
 C:R'.C=R.C
 S:R'.S=R.S
 fr:R'.fr=R.fr
 size:R'.size=R.size
 lazy:R'.lazy=R.lazy
 base:Base R.M R.fr R.s R'.s
theorem Same.refl(R:RS):Same R R:=⟨rfl,rfl,rfl,rfl,rfl,rfl,.refl _ _ _⟩
theorem Same.trans{R1 R2:RS}(h:Same R R1)(k:Same R1 R2):Same R R2:=⟨k.M.trans h.M,k.C.trans h.C,k.S.trans h.S,k.fr.trans h.fr,k.size.trans h.size,k.lazy.trans h.lazy,h.base.trans (by have:=k.base;rw[h.M,h.fr]at this;exact this)⟩
theorem Cost.same{R':RS}{a0 a1 a2 nx:Nat}(h:Cost R R' a0 a1 a2 b nx)(hb:Base R.M R.fr R.s R'.s):Same R R':=⟨h.M,h.C,h.S,h.fr,h.size,h.lazy,hb⟩
theorem Bud.mono{a' b':Nat}(h:Bud R a b)(ha:a≤a')(hb:b≤b'):Bud R a' b':=by
 obtain⟨h0,h1,h2,h3,m,h4,h5⟩:=h;exact⟨by omega,by omega,by omega,by omega,m,h4,by omega⟩
section
variable {w0 W w':World} {T T':Nat->Nat} {A:Adr} {R R':RS} {V:Nat->Nat->Sec} {a b:Nat}
theorem Stp.refl(W:World)(T:Nat->Nat)(A:Adr):Stp W T A W T:=⟨fun _ _=>rfl,Zl _ _⟩
theorem Stp.trans{w2:World}{T2:Nat->Nat}(h:Stp W T A w' T')(k:Stp w' T' A w2 T2):Stp W T A w2 T2:=by
 have hs:=h.chg.size;exact⟨fun q hq=>(k.tags q (by omega)).trans (h.tags q hq),Zaj h.chg k.chg (fun q hq e=>by rw[<-h.tags q hq];exact e)⟩
theorem LAt.next(h:LAt w0 W T A R V)(s:Stp W T A w' T'):(∀q,q<w0.heap.size->T' q=0/\¬A.has q)/\Below w0.heap.size w0 w':=by
 have hs:=h.bel.size;refine⟨fun q hq=>⟨(s.tags q (by omega)).trans (h.old q hq).1,(h.old q hq).2⟩,h.bel.trans (s.chg.below fun q hq=>⟨by omega,fun e=>e.elim (fun e=>e (h.old q hq).1) (h.old q hq).2⟩)⟩
theorem LAt.keep(h:LAt w0 W T A R V)(s:Stp W T A w' T'){g:Nat}{cs:Array Value}{t:TypeId}(ha:At W g cs t)(ht:T g=0)(h1:116≠t)(h2:3≠t)(h3:148≠t)(h4:190≠t):At w' g cs t/\T' g=0:=by
 obtain⟨lg,vw,X,hr⟩:=h.rw;exact⟨ha.mod s.chg fun e=>e.elim (fun e=>e ht) (hr.offAt ha h1 h2 h3 h4),(s.tags g ha.lt).trans ht⟩
structure ByteRow (W:World) (T:Nat->Nat) (v:Value) (l:List UInt8):Prop where
 own:∃B,W.ownsRow B 5 1 v l.length (ucells l)
 tag:∀g,v.ownBlock=some g->T g=0
theorem Bud.fresh(h:Bud R a b):Bud R.fresh a b:=⟨h.c0,h.c1,h.c2,h.next,h.small⟩
theorem Bud.batched{k:Nat}(h:Bud R a b){V':Nat->Nat->Sec}(hr:BatchedRes R R' V V' k)(hk:k≤256)(hw:R.wait.length≤512):Bud R' (a+1000000) (b+8*k+4):=by
 obtain⟨h0,h1,h2,h3,m,h4,h5⟩:=h;obtain⟨-,⟨k1,k2,k3,k4,k5,-⟩,kw,-⟩:=hr;exact⟨by omega,by omega,by omega,by omega,_,k4 m h4,by omega⟩
theorem Bud.small'(h:Bud R a b){n:Nat}(hn:b≤n):R.s.small n:=by
 obtain⟨-,-,-,-,m,h4,h5⟩:=h;exact h4.mono (by omega)
end
structure Within (a b:Nat):Prop where
 a:a≤990000000000
 b:b≤600000
noncomputable def wcode(M C S size:Nat)(us:List (Int×List UInt8)):Nat:=if splitCode M C S us≠0 then (splitCode M C S us).toNat else if us= []then 0 else if size<2*mostIn M (S*C) (tabAll M C us)+1 then 122 else 0
theorem Zik(m c s:Int)(us:List (Int×List UInt8)):0≤splitCode m c s us:=by
 unfold splitCode;split
 ·omega
 ·split
  ·omega
  ·split
   ·omega
   ·split<;>omega
theorem Zj6{M C S:Nat}{us:List (Int×List UInt8)}(h:splitCode M C S us=0):BatchOk M C S us:=by
 obtain⟨M',C',S',h1,h2,h3,h4⟩:=Zqr h;have e1:M=M':=by exact_mod_cast h1
 have e2:C=C':=by exact_mod_cast h2
 have e3:S=S':=by exact_mod_cast h3
 subst e1;subst e2;subst e3;exact h4
noncomputable def wLaid(M C S size:Nat)(us:List (Int×List UInt8))(D:Nat->Sec):Nat->Sec:=if wcode M C S size us=0 then layK D us us.length else D
theorem Zwr{w0 W:World}{V:Nat->Nat->Sec}(h:LAt w0 W T A R V)(hb:Bud R a b)(hin:Within a b)(pv:Value)(us:List (Int×List UInt8))(hp:PutSeg w0 pv us):
  Calls Zw 25 #[Zs (some ⟨A.q,0,none⟩),pv] W fun e w'=>e=Zu (.agg #[O Z 0,.int .u16 (wcode R.M R.C R.S R.size us:Nat)])/\∃T' R' V',LAt w0 w' T' A R' V'/\Stp W T A w' T'/\Bud R' (a+1000000) (b+8*us.length+4)/\Same R R'/\∀k,k<R.S*R.C*(R.M-1)->blkOf R.M R.C V' k=wLaid R.M R.C R.S R.size us (blkOf R.M R.C V) k:=by
 obtain⟨lg,vw,X,hr⟩:=h.rw;have h1:=hin.a;have h2:=hin.b;have h30:=hb.c0;have h31:=hb.c1;have h32:=hb.c2;have h33:=hb.next;have hq0:w0.heap.size≤A.q:=by
  by_cases hq:A.q<w0.heap.size
  ·exact absurd (.inl rfl) (h.old A.q hq).2
  ·omega
 have hpW:∀W',Chg (fun q=>q=A.q) W W'->PutSeg W' pv us:=fun W' hc=>hp.below (h.bel.trans (hc.below fun q hq=>⟨by have:=h.bel.size;omega,fun e=>by omega⟩))
 have fin:∀w',RPost W T A R.fresh lg vw X w'->wcode R.M R.C R.S R.size us≠0\/us= []->∃T' R' V',LAt w0 w' T' A R' V'/\Stp W T A w' T'/\Bud R' (a+1000000) (b+8*us.length+4)/\Same R R'/\∀k,k<R.S*R.C*(R.M-1)->blkOf R.M R.C V' k=wLaid R.M R.C R.S R.size us (blkOf R.M R.C V) k:=by
  rintro w' ⟨T',k1,k2,k3⟩ hwc;have hst:Stp W T A w' T':=⟨k2,k3⟩;obtain⟨k4,k5⟩:=h.next hst;refine⟨T',R.fresh,V,⟨⟨lg,vw,X,k1⟩,h.good.fresh,h.idle,k4,k5⟩,hst,hb.fresh.mono (by omega) (by omega),⟨rfl,rfl,rfl,rfl,rfl,rfl,.refl _ _ _⟩,fun k _=> ?_⟩;unfold wLaid;rcases hwc with e|e
  ·rw[Ze e]
  ·subst e
   split<;>rfl
 by_cases hs:splitCode R.M R.C R.S us=0
 ·have ok:=Zj6 hs
  by_cases hu:us= []
  ·subst hu
   have hw:wcode R.M R.C R.S R.size []=0:=by unfold wcode;rw[Ze (by rw[hs];simp),Zf rfl]
   rw[hw];refine(Zio hr pv hpW ok).mono ?_;rintro e w' ⟨rfl,hpo⟩;exact⟨rfl,fin w' hpo (.inr rfl)⟩
  ·by_cases hz:R.size<2*mostIn R.M (R.S*R.C) (tabAll R.M R.C us)+1
   ·have hw:wcode R.M R.C R.S R.size us=122:=by unfold wcode;rw[Ze (by rw[hs];simp),Ze hu,Zf hz]
    refine(Zgt hr h.good.jrn.z2 pv us hpW ok hu hz).mono ?_;rintro e w' ⟨rfl,hpo⟩;exact⟨by rw[hw];rfl,fin w' hpo (.inl (by rw[hw];decide))⟩
   ·have hw:wcode R.M R.C R.S R.size us=0:=by unfold wcode;rw[Ze (by rw[hs];simp),Ze hu,Ze hz]
    rw[hw];refine(Zjv hr h.good pv us hpW ok hu (by omega) (by omega) (by omega) (by omega) (by omega) (hb.small' (by omega))).mono ?_;rintro e w' ⟨rfl,ps,R1,R4,R',sec,lg',vw',X',hbt,T',k1,k2,k3⟩;have hst:Stp W T A w' T':=⟨k2,k3⟩;obtain⟨k4,k5⟩:=h.next hst;have hres:=hbt.res h.good ok hu (by omega) (by omega);refine⟨rfl,T',R',vNext R V us,⟨⟨lg',vw',X',k1⟩,hres.good,hres.done,k4,k5⟩,hst,hb.batched hres ok.few h.good.few,hres.cost.same hres.base,fun k hk=> ?_⟩;unfold wLaid;rw[Zf hw];exact Zlg h.good ok hk
 ·have h0:=Zik R.M R.C R.S us
  obtain⟨n,hn⟩:=Int.eq_ofNat_of_zero_le h0;have hw:wcode R.M R.C R.S R.size us=n:=by
   unfold wcode;rw[Zf hs,hn];rfl
  rw[hw];refine(Zj0 hr pv us hpW n hn (by omega)).mono ?_;rintro e w' ⟨rfl,hpo⟩;exact⟨rfl,fin w' hpo (.inl (by rw[hw];omega))⟩
open Go.RowKit
open Go.RowKit
open Go.RowKit
open Go.RowKit Go.ChangeShapes Go.WideShapes Go.ChangeAt Go.Deep
end Go.Proofs.YtmemlkmnhcealaaGreat
