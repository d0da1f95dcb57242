
/- A batch written (printed by gen_rxe.py). -/
import Derived.Test.YtmemlkmnhcealaaGreatRxD
set_option linter.unusedVariables false
set_option maxRecDepth 100000
set_option maxHeartbeats 16000000
namespace Go.Proofs.YtmemlkmnhcealaaGreat
open Value renaming int→O,pointer→Zs
open IntKind renaming i64→Z
open Ending renaming returned→Zu
open Go.Proofs.Tryz renaming prog→Zw
open Go.RowKit
open Lib(hid)
theorem Zjv{w:World}{T:Nat->Nat}{A:Adr}{R:RS}{lg:Option Nat}{vw:Value}{X:List OP}{V:Nat->Nat->Sec}(h:RwIn w T A R lg vw X)(hg:Good R V)(pv:Value)(us:List (Int×List UInt8))(hp:∀W,Chg (fun q=>q=A.q) w W->PutSeg W pv us)(ok:BatchOk R.M R.C R.S us)(hu:us≠ [])(hfit:2*mostIn R.M (R.S*R.C) (tabAll R.M R.C us)+1≤R.size)(hnx:R.next≤1000000000000)(hc0:R.s.cnt 0≤999990000000)(hc1:R.s.cnt 1≤999990000000)(hc2:R.s.cnt 2≤999990000000)(hsm:R.s.small 700000):
  Calls Zw 25 #[Zs (some ⟨A.q,0,none⟩),pv] w fun e w'=>e=Zu (.agg #[O Z 0,.int .u16 0])/\∃ps R1 R4 R' sec lg' vw' X',Batched R V us ps R1 R4 R' sec/\RPost w T A R' lg' vw' X' w':=by
 obtain⟨W1,hW1,h1,hst,e1,hB1⟩:=Zeg h;have HB1:=hid hB1;have hpW:=hp _ hst;obtain⟨pa,pc,rfl⟩:=hpW.shape;have HSP:Hid (Calls Zw 54 #[.agg #[O Z R.M,O Z R.C,O Z R.S],.slice pa us.length pc] W1 fun e w'=>(∃v' L,e=Zu (.tuple #[v',.int .u16 0])/\RowsAt w' W1.heap.size v' L/\SplitIs R.M R.C R.S us L)/\Below W1.heap.size W1 w'):=Zdw R.M R.C R.S _ us _ ok hpW;have HVG:Hid (∀q,w.heap.size≤q->T q=0):=fun q hq=>Zae h.bay q hq
 have hlow:=h.low;have HOF:Hid (∀q,w.heap.size≤q->¬A.has q):=fun q hq=>hlow.ne hq
 have f8:=h.rw.free 8;have c8:w.cell? ⟨A.q,8,none⟩=some (.bool R.sealed):=h.rw.cell 8;have b1:w.cell? ⟨A.q,1,none⟩=some (O Z R.M):=h.rw.cell 1;have b2:w.cell? ⟨A.q,2,none⟩=some (O Z R.C):=h.rw.cell 2;have b3:w.cell? ⟨A.q,3,none⟩=some (O Z R.S):=h.rw.cell 3;have hqlt:=h.rw.lt;have HR1:=hid h1;have HST:=hid hst;have HPW:=hid hpW;have HG:=hid hg;have HOK:=hid ok;have HNE:=hid hu;have HFIT:=hid hfit;have HNX:=hid hnx;have HC0:=hid hc0;have HC1:=hid hc1;have HC2:=hid hc2;have HSM:=hid hsm;have HLN:Hid (∀L,SplitIs R.M R.C R.S us L->0<L.length):=fun L hI=>by
  have h1:=congrArg List.length hI;rw[Zp,Zp]at h1;rw[h1];exact List.length_pos_iff.2 (Zed ok hu)
 clear h hB1 h1 hst hpW hp hg ok hu hfit hnx hc0 hc1 hc2 hsm hlow;have HSPX:Hid (∀K:Ending->World->Prop,(∀ra rc L w2,Hid (RowsAt w2 W1.heap.size (.slice ra L.length rc) L)->Hid (SplitIs R.M R.C R.S us L)->Hid (Below W1.heap.size W1 w2)->((L.length:Int)==0)=false->L.length≤4096->K (Zu (.tuple #[.slice ra L.length rc,.int .u16 0])) w2)->Calls Zw 54 #[.agg #[O Z R.M,O Z R.C,O Z R.S],.slice pa us.length pc] W1 K):=fun K hK=>by
  refine HSP.out.mono ?_;rintro e w2 ⟨⟨rv,L,rfl,hL,hI⟩,hb2⟩;obtain⟨ra,rc,rfl⟩:=Zab hL.row;have h0:=HLN.out L hI;have h1:L.length≤4096:=by
   have h1:=congrArg List.length hI;rw[Zp,Zp]at h1;have h2:=Zcy (R:=R) HOK.out.few;have h3:(batRows R us).length=(rowsIn R.M (R.S*R.C) (tabAll R.M R.C us)).length:=rfl;omega
  exact hK ra rc L w2 (hid hL) (hid hI) (hid hb2) (beq_eq_false_iff_ne.2 (by omega)) h1
 clear HSP HLN;subst hW1;go_enter Tryz.func25,Tryz.ntmps25
 go_wp2_with (first
  |(go_at_call 54;(with_reducible refine HSPX.out _ ?_);intro ra rc L w2 HL HI HB2 hne hlf;have hqlt2:=HB2.out.size))
 clear c8 b1 b2 b3 f8 HSPX;obtain⟨c,hc⟩:∃c:WC,c=⟨w,T,A,R,V,us,.slice pa us.length pc,.slice ra L.length rc,L,w2.heap.size⟩:=⟨_,rfl⟩;have hcw:c.w=w:=by rw[hc]
 have hcT:c.T=T:=by rw[hc]
 have hcA:c.A=A:=by rw[hc]
 have hcR:c.R=R:=by rw[hc]
 have hcbp:c.bp=w2.heap.size:=by rw[hc]
 have hw2:w.heap.size<w2.heap.size:=by rw[e1]at hqlt2;omega
 have HWK:Hid (WOk c):=by
  subst hc;refine⟨hw2,HVG.out,HOF.out,HG.out,HOK.out,HNE.out,HFIT.out,HNX.out,HC0.out,HC1.out,HC2.out,HSM.out,HI.out,fun g hg=>(HL.out.row.lt g hg).2,fun x hx g hg=>((HL.out.each x hx).row.lt g hg).2,fun x hx y hy g hg=>(((HL.out.each x hx).dat y hy).lt g hg).2⟩
 have HS0:Hid (S0 c ((w2.alloc (.cells #[Zs (some ⟨A.q,0,none⟩),.slice pa us.length pc,.slice ra L.length rc,.slice none 0 0] 120)).alloc (.cells #[.func (.func 56) #[Zs (some ⟨w2.heap.size,0,none⟩)] #[],.func (.func 57) #[Zs (some ⟨w2.heap.size,0,none⟩)] #[],.func (.func 58) #[Zs (some ⟨w2.heap.size,0,none⟩)] #[],.func (.func 59) #[Zs (some ⟨w2.heap.size,0,none⟩)] #[],.func (.func 60) #[Zs (some ⟨w2.heap.size,0,none⟩)] #[],.func (.func 61) #[Zs (some ⟨w2.heap.size,0,none⟩)] #[]] 81))):=by
  subst hc;exact Zqb HR1.out HST.out HB1.out HPW.out HL.out HB2.out rfl
 have HX0:Hid (∀W,S0 c W->W.cell? ⟨w2.heap.size+1,0,none⟩=some (.func (.func 56) #[Zs (some ⟨w2.heap.size,0,none⟩)] #[])/\w2.heap.size+1<W.heap.size/\Hid (∀K:Ending->World->Prop,(∀w5,Hid (∀w6,Below w5.heap.size w5 w6->S1 c w6)->K (Zu (.agg #[O Z 0,.int .u16 0])) w5)->Calls Zw 56 #[Zs (some ⟨w2.heap.size,0,none⟩)] W K)):=fun W hW=>by
  subst hc;have hcall:=Zwk HWK.out hW;obtain⟨lg,vw,X,hat,hrest⟩:=hW;refine⟨hat.cl.cell 0,hat.cl.lt,fun K hK=> ?_⟩;refine hcall.mono ?_;rintro e w' ⟨rfl,h6⟩;exact hK w' (hid h6)
 have HX1:Hid (∀W,S1 c W->W.cell? ⟨w2.heap.size+1,1,none⟩=some (.func (.func 57) #[Zs (some ⟨w2.heap.size,0,none⟩)] #[])/\w2.heap.size+1<W.heap.size/\Hid (∀K:Ending->World->Prop,(∀w5,Hid (∀w6,Below w5.heap.size w5 w6->S2 c w6)->K (Zu (.agg #[O Z 0,.int .u16 0])) w5)->Calls Zw 57 #[Zs (some ⟨w2.heap.size,0,none⟩)] W K)):=fun W hW=>by
  subst hc;have hcall:=Zvi HWK.out hW;obtain⟨T1,R1,lg,vw,X,hr,hat,hrest⟩:=hW;refine⟨hat.cl.cell 1,hat.cl.lt,fun K hK=> ?_⟩;refine hcall.mono ?_;rintro e w' ⟨rfl,h6⟩;exact hK w' (hid h6)
 have HX2:Hid (∀W,S2 c W->W.cell? ⟨w2.heap.size+1,2,none⟩=some (.func (.func 58) #[Zs (some ⟨w2.heap.size,0,none⟩)] #[])/\w2.heap.size+1<W.heap.size/\Hid (∀K:Ending->World->Prop,(∀w5,Hid (∀w6,Below w5.heap.size w5 w6->S3 c w6)->K (Zu (.agg #[O Z 0,.int .u16 0])) w5)->Calls Zw 58 #[Zs (some ⟨w2.heap.size,0,none⟩)] W K)):=fun W hW=>by
  subst hc;have hcall:=Zw1 HWK.out hW;obtain⟨T1,R1,lg,vw,X,xv,XS,hr,hat,hrest⟩:=hW;refine⟨hat.cl.cell 2,hat.cl.lt,fun K hK=> ?_⟩;refine hcall.mono ?_;rintro e w' ⟨rfl,h6⟩;exact hK w' (hid h6)
 have HX3:Hid (∀W,S3 c W->W.cell? ⟨w2.heap.size+1,3,none⟩=some (.func (.func 59) #[Zs (some ⟨w2.heap.size,0,none⟩)] #[])/\w2.heap.size+1<W.heap.size/\Hid (∀K:Ending->World->Prop,(∀w5,Hid (∀w6,Below w5.heap.size w5 w6->S4 c w6)->K (Zu (.agg #[O Z 0,.int .u16 0])) w5)->Calls Zw 59 #[Zs (some ⟨w2.heap.size,0,none⟩)] W K)):=fun W hW=>by
  subst hc;have hcall:=Zu0 HWK.out hW;obtain⟨T1,R1,lp,u,vw,X,xv,XS,sec,hr,hat,hrest⟩:=hW;refine⟨hat.cl.cell 3,hat.cl.lt,fun K hK=> ?_⟩;refine hcall.mono ?_;rintro e w' ⟨rfl,h6⟩;exact hK w' (hid h6)
 have HX4:Hid (∀W,S4 c W->W.cell? ⟨w2.heap.size+1,4,none⟩=some (.func (.func 60) #[Zs (some ⟨w2.heap.size,0,none⟩)] #[])/\w2.heap.size+1<W.heap.size/\Hid (∀K:Ending->World->Prop,(∀w5,Hid (∀w6,Below w5.heap.size w5 w6->S5 c w6)->K (Zu (.agg #[O Z 0,.int .u16 0])) w5)->Calls Zw 60 #[Zs (some ⟨w2.heap.size,0,none⟩)] W K)):=fun W hW=>by
  subst hc;have hcall:=Zvh HWK.out hW;obtain⟨T1,R1,R4,lp,u,vw,X,xv,XS,sec,hr,hpl,hat,hrest⟩:=hW;refine⟨hat.cl.cell 4,hat.cl.lt,fun K hK=> ?_⟩;refine hcall.mono ?_;rintro e w' ⟨rfl,h6⟩;exact hK w' (hid h6)
 have HX5:Hid (∀W,S5 c W->W.cell? ⟨w2.heap.size+1,5,none⟩=some (.func (.func 61) #[Zs (some ⟨w2.heap.size,0,none⟩)] #[])/\w2.heap.size+1<W.heap.size/\Hid (∀K:Ending->World->Prop,(∀w5,Hid (∀w6,Below w5.heap.size w5 w6->S6 c w6)->K (Zu (.agg #[O Z 0,.int .u16 0])) w5)->Calls Zw 61 #[Zs (some ⟨w2.heap.size,0,none⟩)] W K)):=fun W hW=>by
  subst hc;have hcall:=Zxb HWK.out hW;obtain⟨T1,R1,R4,lg,vw,X,xv,ps,sec,hr,hpl,hat,hrest⟩:=hW;refine⟨hat.cl.cell 5,hat.cl.lt,fun K hK=> ?_⟩;refine hcall.mono ?_;rintro e w' ⟨rfl,h6⟩;exact hK w' (hid h6)
 have HS6X:Hid (∀W,S6 c W->(W.cell? ⟨w.heap.size,0,none⟩=some (O Z 0)/\W.cell? ⟨w.heap.size,1,none⟩=some (.int .u16 0)/\W.frozen? ⟨w.heap.size,0,none⟩=false/\W.frozen? ⟨w.heap.size,1,none⟩=false/\w.heap.size<W.heap.size)/\((W.setCell ⟨w.heap.size,0,none⟩ (O Z 0)).setCell ⟨w.heap.size,1,none⟩ (.int .u16 0)).cell? ⟨w.heap.size,0,none⟩=some (O Z 0)/\((W.setCell ⟨w.heap.size,0,none⟩ (O Z 0)).setCell ⟨w.heap.size,1,none⟩ (.int .u16 0)).cell? ⟨w.heap.size,1,none⟩=some (.int .u16 0)/\∃ps R1 R4 R' sec lg' vw' X',Batched R V us ps R1 R4 R' sec/\RPost w T A R' lg' vw' X' ((W.setCell ⟨w.heap.size,0,none⟩ (O Z 0)).setCell ⟨w.heap.size,1,none⟩ (.int .u16 0))):=fun W hW=>by
  subst hc;obtain⟨T1,R1,R4,R',lg',vw',X',xv,ps,sec,hwr,hat⟩:=hW;have hF:=(hat.box.set 0 (O Z 0)).set 1 (.int .u16 0);have hN:w2.heap.size+2≤W.heap.size:=hat.big;have htb:T1 w.heap.size=0:=(hat.tags _ (by show w.heap.size<w2.heap.size+2;omega)).trans (HVG.out _ (Za _));refine⟨⟨hat.box.cell 0,hat.box.cell 1,hat.box.free 0,hat.box.free 1,by omega⟩,hF.cell 0,hF.cell 1,ps,R1,R4,R',sec,lg',vw',X',hwr,T1,hat.rw.box hat.box htb (box2 _ _ _ _),fun q hq=>hat.tags q (by show q<w2.heap.size+2;omega),Zaj hat.chg (box2 W w.heap.size (O Z 0) (.int .u16 0)) (fun q hq e=>by have hq':q<w.heap.size:=hq;omega)⟩
 clear HB1 HVG HOF HR1 HST HPW HG HOK HNE HFIT HNX HC0 HC1 HC2 HSM HL HI HB2 HWK;go_wp2;go_loopw [51] (fun q wr=>∃k:Nat,k≤6/\q=O Z k/\(k=0->S0 c wr)/\(k=1->S1 c wr)/\(k=2->S2 c wr)/\(k=3->S3 c wr)/\(k=4->S4 c wr)/\(k=5->S5 c wr)/\(k=6->S6 c wr)) (fun q _=>6-(intOf q).toNat);case atStart=>exact⟨0,by omega,rfl,fun _=>HS0.out,fun e=>by omega,fun e=>by omega,fun e=>by omega,fun e=>by omega,fun e=>by omega,fun e=>by omega⟩
 case round=>
  obtain⟨k,hk,rfl,hr0,hr1,hr2,hr3,hr4,hr5,hr6⟩:=hrel;have HR0:=hid hr0;have HR1:=hid hr1;have HR2:=hid hr2;have HR3:=hid hr3;have HR4:=hid hr4;have HR5:=hid hr5;have HR6:=hid hr6;clear hr0 hr1 hr2 hr3 hr4 hr5 hr6;by_cases hk0:k=0
  ·subst hk0
   obtain⟨hcl,hltc,HCA⟩:=HX0.out wr (HR0.out rfl);clear HR0 HR1 HR2 HR3 HR4 HR5 HR6
   go_wp2_with (first
    |(go_at_call 56;go_loud ((with_reducible refine HCA.out _ ?_);intro w5 HN;have HN6:=hid (HN.out _ ((Zb w5.heap.size w5).alloc (Za _) (.cells #[O Z 0,.int .u16 0] 76)));have hN5:=At.new w5 #[O Z 0,.int .u16 0] 76;have m1:=hN5.cell 1;clear HN hN5)))
   exact⟨⟨1,by omega,by go_num,fun e=>by omega,fun _=>HN6.out,fun e=>by omega,fun e=>by omega,fun e=>by omega,fun e=>by omega,fun e=>by omega⟩,by simp[intOf]⟩
  by_cases hk1:k=1
  ·subst hk1
   obtain⟨hcl,hltc,HCA⟩:=HX1.out wr (HR1.out rfl);clear HR0 HR1 HR2 HR3 HR4 HR5 HR6
   go_wp2_with (first
    |(go_at_call 57;go_loud ((with_reducible refine HCA.out _ ?_);intro w5 HN;have HN6:=hid (HN.out _ ((Zb w5.heap.size w5).alloc (Za _) (.cells #[O Z 0,.int .u16 0] 76)));have hN5:=At.new w5 #[O Z 0,.int .u16 0] 76;have m1:=hN5.cell 1;clear HN hN5)))
   exact⟨⟨2,by omega,by go_num,fun e=>by omega,fun e=>by omega,fun _=>HN6.out,fun e=>by omega,fun e=>by omega,fun e=>by omega,fun e=>by omega⟩,by simp[intOf]⟩
  by_cases hk2:k=2
  ·subst hk2
   obtain⟨hcl,hltc,HCA⟩:=HX2.out wr (HR2.out rfl);clear HR0 HR1 HR2 HR3 HR4 HR5 HR6
   go_wp2_with (first
    |(go_at_call 58;go_loud ((with_reducible refine HCA.out _ ?_);intro w5 HN;have HN6:=hid (HN.out _ ((Zb w5.heap.size w5).alloc (Za _) (.cells #[O Z 0,.int .u16 0] 76)));have hN5:=At.new w5 #[O Z 0,.int .u16 0] 76;have m1:=hN5.cell 1;clear HN hN5)))
   exact⟨⟨3,by omega,by go_num,fun e=>by omega,fun e=>by omega,fun e=>by omega,fun _=>HN6.out,fun e=>by omega,fun e=>by omega,fun e=>by omega⟩,by simp[intOf]⟩
  by_cases hk3:k=3
  ·subst hk3
   obtain⟨hcl,hltc,HCA⟩:=HX3.out wr (HR3.out rfl);clear HR0 HR1 HR2 HR3 HR4 HR5 HR6
   go_wp2_with (first
    |(go_at_call 59;go_loud ((with_reducible refine HCA.out _ ?_);intro w5 HN;have HN6:=hid (HN.out _ ((Zb w5.heap.size w5).alloc (Za _) (.cells #[O Z 0,.int .u16 0] 76)));have hN5:=At.new w5 #[O Z 0,.int .u16 0] 76;have m1:=hN5.cell 1;clear HN hN5)))
   exact⟨⟨4,by omega,by go_num,fun e=>by omega,fun e=>by omega,fun e=>by omega,fun e=>by omega,fun _=>HN6.out,fun e=>by omega,fun e=>by omega⟩,by simp[intOf]⟩
  by_cases hk4:k=4
  ·subst hk4
   obtain⟨hcl,hltc,HCA⟩:=HX4.out wr (HR4.out rfl);clear HR0 HR1 HR2 HR3 HR4 HR5 HR6
   go_wp2_with (first
    |(go_at_call 60;go_loud ((with_reducible refine HCA.out _ ?_);intro w5 HN;have HN6:=hid (HN.out _ ((Zb w5.heap.size w5).alloc (Za _) (.cells #[O Z 0,.int .u16 0] 76)));have hN5:=At.new w5 #[O Z 0,.int .u16 0] 76;have m1:=hN5.cell 1;clear HN hN5)))
   exact⟨⟨5,by omega,by go_num,fun e=>by omega,fun e=>by omega,fun e=>by omega,fun e=>by omega,fun e=>by omega,fun _=>HN6.out,fun e=>by omega⟩,by simp[intOf]⟩
  by_cases hk5:k=5
  ·subst hk5
   obtain⟨hcl,hltc,HCA⟩:=HX5.out wr (HR5.out rfl);clear HR0 HR1 HR2 HR3 HR4 HR5 HR6
   go_wp2_with (first
    |(go_at_call 61;go_loud ((with_reducible refine HCA.out _ ?_);intro w5 HN;have HN6:=hid (HN.out _ ((Zb w5.heap.size w5).alloc (Za _) (.cells #[O Z 0,.int .u16 0] 76)));have hN5:=At.new w5 #[O Z 0,.int .u16 0] 76;have m1:=hN5.cell 1;clear HN hN5)))
   exact⟨⟨6,by omega,by go_num,fun e=>by omega,fun e=>by omega,fun e=>by omega,fun e=>by omega,fun e=>by omega,fun e=>by omega,fun _=>HN6.out⟩,by simp[intOf]⟩
  obtain rfl:k=6:=by omega
  obtain⟨⟨k0,k1,f0,f1,hbl⟩,r0,r1,hend⟩:=HS6X.out wr (HR6.out rfl);have HEND:=hid hend;clear hend HR0 HR1 HR2 HR3 HR4 HR5 HR6 HS6X HS0;go_wp2;(try simp only [Exit.inBlock,Exit.then]);refine bodyPost_ret (v:=.agg #[O Z 0,.int .u16 0]) ?_ rfl ⟨rfl,HEND.out⟩;rw[Zai rfl];go_simp;try rfl
end Go.Proofs.YtmemlkmnhcealaaGreat
