
/- A batch's row, worked out. -/
import Derived.Test.YtmemlkmnhcealaaGreatMrg27
set_option linter.unusedVariables false
set_option maxRecDepth 100000
set_option maxHeartbeats 16000000
namespace Go.Proofs.YtmemlkmnhcealaaGreat
open Value renaming int→O,pointer→Zs,slice→Zt
open IntKind renaming i64→Z
open Go.RowKit
open Lib(hid)
def rdsOf(R:RS)(ps:List Pat)(r:Nat)(z:Int):List Nat:=readsOf ps (parOf R.M R.C r) R.M (modeOf R.M ps (parOf R.M R.C r) z)
def lsOf(R:RS)(V:Nat->Nat->Sec)(ps:List Pat)(r:Nat)(z:Int):List (List UInt8):=(List.range R.M).map fun m=>if m∈rdsOf R ps r z then V m r else []
def outOf(R:RS)(V:Nat->Nat->Sec)(ps:List Pat)(r:Nat)(z:Int):List Pat:=outPats (fun m=>R.dn m r) ps (parOf R.M R.C r) r (sumL (xorUp (addsOf (rdsOf R ps r z) (lsOf R V ps r z) ps) ((rdsOf R ps r z).length+ps.length)) 128)
theorem Zv1{w:World}{T:Nat->Nat}{A:Adr}{R:RS}{lg:Option Nat}{vw:Value}{X:List OP}{V:Nat->Nat->Sec}(h:RwIn w T A R lg vw X)(hs:Sound R V)(bp:Nat)(pv rv xv:Value)(XS:List OP)(K:Nat)(hb:At w bp (batCells A pv rv xv) 120)(tb:T bp=0)(hxs:ORow w K xv XS)(hK:K≤w.heap.size)(hKT:∀q,K≤q->T q=0)(hxf:XS.length≤20000)(hvK:∀g,vw.ownBlock=some g->g<K)
  (v:Value) (ps:List Pat) (r:Nat) (hv:PSeg w v ps) (okp:PlanOk R.M R.C R.S (fun m=>R.dn m r) ps r) (z:Int) (hz:GoneIs (fun m=>R.dn m r) R.M z) (hcnt:R.s.cnt 0≤999997000000) (hsm:R.s.small 1000000):
  Calls Tryz.prog 104 #[Zs (some ⟨bp,0,none⟩),v] w fun e w'=>e=.returned (.agg #[O Z 0,.int .u16 0])/\∃xv' X2,RwIn w' T A {R with s:=R.s.ticks 0 (R.rcs r (rdsOf R ps r z))} lg vw X/\At w' bp (batCells A pv rv xv') 120/\ORow w' K xv' (XS++X2)/\(X2.map (·.1)).Perm (outOf R V ps r z)/\Chg (fun q=>T q≠0\/q=bp\/xv.ownBlock=some q) w w':=by
 have hb0:Below w.heap.size w (w.alloc (.cells #[O Z 0,.int .u16 0] 76)):=(Zb _ _).alloc (Za _) _;have hvirg:∀q,w.heap.size≤q->T q=0:=fun q hq=>Zae h.bay q hq
 have hlow:=h.low;have hne:=okp.ne;have hM3:3≤R.M:=(Zbe okp.hg).1;have hM:R.M≤16:=(Zbe okp.hg).2.1;have hrow:R.S*R.C≤4096:=(Zbe okp.hg).2.2.2;have hr:=okp.hr;obtain⟨pa,pc,rfl⟩:=hv.shape;obtain⟨b,o,hpa,hblt,hx⟩:=PSeg.full hv hne;subst hpa;have hp0:w.cell? ⟨b,o+1,none⟩=some (O Z r):=by
  obtain⟨-,k1,-⟩:=hx 0 hne;rw[okp.rows _ (Zj hne),show o+0*3+1=o+1 by omega]at k1;exact k1
 have HSS:Hid (∀W,Below w.heap.size w W->W.cell? ⟨bp,0,none⟩=some (Zs (some ⟨A.q,0,none⟩))/\W.cell? ⟨A.q,1,none⟩=some (O Z R.M)/\W.cell? ⟨A.q,2,none⟩=some (O Z R.C)/\W.cell? ⟨A.q,3,none⟩=some (O Z R.S)/\W.cell? ⟨b,o+1,none⟩=some (O Z r)):=fun W hW=>
  ⟨(hb.below hW hb.lt).cell 0,(h.below hW).rw.cell 1,(h.below hW).rw.cell 2,(h.below hW).rw.cell 3,(hW.cell (p:=⟨b,o+1,none⟩) hblt).trans hp0⟩
 have HDN:Hid (∀j:Nat,j<R.M->∀W,Below w.heap.size w W->Calls Tryz.prog 114 #[Zs (some ⟨A.q,0,none⟩),O Z j,O Z r] W fun e w'=>e=.returned (.bool (R.dn j r))/\w'=W):=fun j hj W hW=>Zct j r W (h.below hW).rw (h.below hW).fr hj
 have HPO:Hid (∀g W,Below w.heap.size w W->At W g (dnCells (fun m=>R.dn m r) R.M R.M) 4->Calls Tryz.prog 145 #[.agg #[O Z R.M,O Z R.C,O Z R.S],Zt (some ⟨g,0,none⟩) R.M R.M,Zt (some ⟨b,o,none⟩) ps.length pc] W fun e w'=>∃vq vr dv,e=.returned (.tuple #[.agg #[O Z r,.int .u8 (modeOf R.M ps (parOf R.M R.C r) z:Nat),O Z (parOf R.M R.C r:Nat),vq,vr],.int .u16 0])/\
   PRow w' W.heap.size vq ps ps.length dv/\w'.ownsRow W.heap.size 3 1 vr (rdsOf R ps r z).length (mcells (rdsOf R ps r z))/\Below W.heap.size W w'):=fun g W hW hg=>Zrj R.M R.C R.S r _ _ (fun m=>R.dn m r) ps W okp (Zjk hg) (hv.below hW) z hz
 have HTB:Hid (At (w.alloc (.cells #[O Z 0,.int .u16 0] 76)) w.heap.size #[O Z 0,.int .u16 0] 76):=At.new _ _ _;have H:=hid h;have HS:=hid hs;have HB:=hid hb;have HXS:=hid hxs;have HOK:=hid okp;have HZ:=hid hz;have HB0:=hid hb0;have HVG:=hid hvirg;have HKT:=hid hKT;have hqlt:=h.rw.lt;have hbplt:=hb.lt;obtain⟨s1,s2,s3,s4,s5⟩:=HSS.out _ HB0.out;clear h hs hb hxs okp hz hb0 hvirg hKT hv hx hp0;obtain⟨M,hRM⟩:∃M,M=R.M:=⟨_,rfl⟩;have HRM:=hid hRM;rw[<-hRM]at hM hM3 HSS HDN HPO s2;clear hRM;go_enter Tryz.func104,Tryz.ntmps104
 go_wp2_with (first
  |(refine Zaq rfl _ _ 214 4 1 1 rfl Zla (.bool false) (by kernel_rfl) _ _ _ _ M rfl rfl rfl rfl (by omega) (by unfold maxLen;omega) ?_;intro w5 a5 b5;rw[Znd (fun m=>R.dn m r)]at a5;have A5:=hid a5;have B5:=hid b5;clear a5 b5))
 have e1:(w.alloc (.cells #[O Z 0,.int .u16 0] 76)).heap.size=w.heap.size+1:=Zaa _ _;rw[e1]at A5;have HB5:Hid (Below w.heap.size w w5):=HB0.out.trans (B5.out.mono (by rw[e1];omega));have HT5:=hid (HTB.out.below B5.out HTB.out.lt);clear B5 s1 s2 s3 s4 s5;go_loopw [26] (fun q wr=>∃k:Nat,k≤M/\q=O Z k/\Below w.heap.size w wr/\At wr w.heap.size #[O Z 0,.int .u16 0] 76/\At wr (w.heap.size+1) (dnCells (fun m=>R.dn m r) k M) 4) (fun q _=>M-(intOf q).toNat);case atStart=>exact⟨0,by omega,rfl,HB5.out,HT5.out,A5.out⟩
 case round=>
  obtain⟨k,hk,rfl,hbw,htx,hgx⟩:=hrel;have HBR:=hid hbw;have HTX:=hid htx;have HGX:=hid hgx;clear hbw htx hgx HB5 HT5 A5;by_cases hkM:k<M
  ·as_aux_lemma=>
    have K1:Hid (k+1≤M):=hkM;have cg:wr.cell? ⟨w.heap.size+1,k,none⟩=some (.bool false):=by
     refine(HGX.out.cell k).trans ?_;rw[Zjo _ hkM,Ze (by omega)]
    have fg:=HGX.out.free k;have lg1:=HGX.out.lt;go_wp2;go_region_held3 (fun W=>W.cell? ⟨bp,0,none⟩=some (Zs (some ⟨A.q,0,none⟩))/\W.cell? ⟨A.q,1,none⟩=some (O Z M)/\W.cell? ⟨A.q,2,none⟩=some (O Z R.C)/\W.cell? ⟨A.q,3,none⟩=some (O Z R.S)/\W.cell? ⟨b,o+1,none⟩=some (O Z r))
     (first|exact HSS.out _ HBR.out|exact HSS.out _ HBR.out.drew|exact HSS.out _ (HBR.out.drew.setCell (p:=⟨w.heap.size+1,k,none⟩) (Nat.le_succ _) _)|exact HSS.out _ (HBR.out.setCell (p:=⟨w.heap.size+1,k,none⟩) (Nat.le_succ _) _))
     (first
      |(go_at_call 114;(with_reducible refine(HDN.out k hkM _ ?_).mono ?_);(first|exact HBR.out.drew|exact HBR.out);rintro e w4 ⟨rfl,hw4⟩;subst w4))
    go_wp2;have hst:Chg (fun q=>q=w.heap.size+1) wr (wr.setCell ⟨w.heap.size+1,k,none⟩ (.bool (R.dn k r))):=Zk (S:=fun q=>q=w.heap.size+1) (Zl _ _) ⟨w.heap.size+1,k,none⟩ (.inl rfl) _;have hg2:=HGX.out.set k (.bool (R.dn k r));rw[Zm0 (fun m=>R.dn m r) hkM]at hg2;have ht2:At (wr.setCell ⟨w.heap.size+1,k,none⟩ (.bool (R.dn k r))) w.heap.size #[O Z 0,.int .u16 0] 76:=HTX.out.mod hst (fun e=>by have:w.heap.size=w.heap.size+1:=e;omega);exact⟨⟨k+1,K1.out,by go_num,(HBR.out.setCell (p:=⟨w.heap.size+1,k,none⟩) (Nat.le_succ _) _).drew,ht2,hg2⟩,by simp[intOf];omega⟩
  ·obtain rfl:k=M:=by omega
   obtain⟨s1,s2,s3,s4,s5⟩:=HSS.out _ HBR.out;obtain⟨wl,rfl⟩:∃wl:World,wl=wr:=⟨_,rfl⟩
   go_wp2_with (first
    |(go_at_call 145;(with_reducible refine(HPO.out _ _ HBR.out HGX.out).mono ?_);rintro e w6 ⟨vq,vr,dv,rfl,hpq,hvr,hb6⟩;have HPQ:=hid hpq;have HVR:=hid hvr;have HB6:=hid hb6;obtain⟨qa,qc,rfl⟩:=Zab hpq.row;obtain⟨ra,rc,rfl⟩:=Zab hvr;obtain⟨u1,u2,u3,u4,u5⟩:=HSS.out _ (HBR.out.trans ((hb6.alloc hb6.size (.cells #[O Z r,.int .u8 (modeOf k ps (parOf k R.C r) z:Nat),O Z (parOf k R.C r:Nat),Zt qa ps.length qc,.slice ra (rdsOf R ps r z).length rc] 217)).mono HBR.out.size));clear hpq hvr hb6)
    |(refine Zaq rfl _ _ 220 36 1 24 rfl Zie (Zt none 0 0) (by kernel_rfl) _ _ _ _ k rfl rfl rfl rfl (by omega) (by unfold maxLen;omega) ?_;intro w7 a7 b7;have hpn:=(At.new w6 #[O Z r,.int .u8 (modeOf k ps (parOf k R.C r) z:Nat),O Z (parOf k R.C r:Nat),Zt qa ps.length qc,.slice ra (rdsOf R ps r z).length rc] 217);have d4:w7.cell? ⟨w6.heap.size,4,none⟩=some (.slice ra (rdsOf R ps r z).length rc):=(hpn.below b7 hpn.lt).cell 4;have HPN:=hid hpn;have A7:=hid a7;have B7:=hid b7;clear a7 b7 hpn))
   have e6:(w6.alloc (.cells #[O Z r,.int .u8 (modeOf k ps (parOf k R.C r) z:Nat),O Z (parOf k R.C r:Nat),Zt qa ps.length qc,.slice ra (rdsOf R ps r z).length rc] 217)).heap.size=w6.heap.size+1:=Zaa _ _;obtain⟨wb,hwb,HWB⟩:∃wb:World,wb.heap.size=w6.heap.size+1/\Hid (RwIn wb T A R lg vw X/\Below w.heap.size w wb/\At wb w.heap.size #[O Z 0,.int .u16 0] 76/\At wb (w.heap.size+1) (dnCells (fun m=>R.dn m r) k k) 4/\At wb w6.heap.size #[O Z r,.int .u8 (modeOf k ps (parOf k R.C r) z:Nat),O Z (parOf k R.C r:Nat),Zt qa ps.length qc,.slice ra (rdsOf R ps r z).length rc] 217/\PRow wb w.heap.size (Zt qa ps.length qc) ps ps.length dv/\wb.ownsRow w.heap.size 3 1 (.slice ra (rdsOf R ps r z).length rc) (rdsOf R ps r z).length (mcells (rdsOf R ps r z))/\At w7 (w6.heap.size+1) (List.replicate (k*1) (Value.slice none 0 0)).toArray 36/\Below wb.heap.size wb w7/\w.heap.size≤w6.heap.size):=by
    have hbl:Below wl.heap.size wl (w6.alloc (.cells #[O Z r,.int .u8 (modeOf k ps (parOf k R.C r) z:Nat),O Z (parOf k R.C r:Nat),Zt qa ps.length qc,.slice ra (rdsOf R ps r z).length rc] 217)):=HB6.out.alloc HB6.out.size _;have hbw:Below w.heap.size w (w6.alloc (.cells #[O Z r,.int .u8 (modeOf k ps (parOf k R.C r) z:Nat),O Z (parOf k R.C r:Nat),Zt qa ps.length qc,.slice ra (rdsOf R ps r z).length rc] 217)):=HBR.out.trans (hbl.mono HBR.out.size);have h7:=A7.out;rw[e6]at h7;exact⟨_,e6,H.out.below hbw,hbw,HTX.out.below hbl HTX.out.lt,HGX.out.below hbl HGX.out.lt,HPN.out,(HPQ.out.lower HBR.out.size).below ((Zb _ _).alloc (Za _) _),(Zan HVR.out HBR.out.size).alloc _,h7,B7.out,Zc HBR.out.size HB6.out.size⟩
   clear A7 B7 HPN HPQ HVR e6 HB6 HTX HGX HB0 HTB HPO HDN;have HL0:Hid (RoAt wb w7 T A {R with s:=R.s.ticks 0 (R.rcs r ((rdsOf R ps r z).take 0))} lg vw X (w6.heap.size+1) (fun m=>if m∈(rdsOf R ps r z).take 0 then V m r else [])):=by
    obtain⟨f1,f2,f3,f4,f5,f6,f7,f8,f9,f10⟩:=HWB.out;have e:({R with s:=R.s.ticks 0 (R.rcs r ((rdsOf R ps r z).take 0))}:RS)=R:=by
     show({R with s:=R.s.ticks 0 0}:RS)=R
     rw[Zei]
    rw[e];have hro:=RowsOf.fresh (X:=fun k=>T k≠0) f8;rw[HRM.out]at hro;exact⟨f1.below f9,hro.congr fun j hj=>by simp,Zm f9 _,HVG.out _ (by omega),by rw[hwb];omega⟩
   have HS2:Hid (∀W,Chg (fun q=>T q≠0) wb W->W.cell? ⟨bp,0,none⟩=some (Zs (some ⟨A.q,0,none⟩))/\W.cell? ⟨w6.heap.size,0,none⟩=some (O Z r)):=fun W hW=>by
    obtain⟨f1,f2,f3,f4,f5,f6,f7,f8,f9,f10⟩:=HWB.out;exact⟨((HB.out.below f2 HB.out.lt).mod hW (fun e=>e tb)).cell 0,(f5.mod hW (fun e=>e (HVG.out _ f10))).cell 0⟩
   have hn16:(rdsOf R ps r z).length≤16:=by
    have:=Zde ps (parOf R.M R.C r) R.M (modeOf R.M ps (parOf R.M R.C r) z);have e:(rdsOf R ps r z).length≤R.M:=this;rw[<-HRM.out]at e;omega
   have hsz6:w.heap.size≤w6.heap.size:=HWB.out.2.2.2.2.2.2.2.2.2;clear s1 s2 s3 s4 s5 u1 u2 u3 u4 u5 HSS HBR;go_loopw [72] (fun q wx=>∃i:Nat,i≤(rdsOf R ps r z).length/\q=O Z i/\RoAt wb wx T A {R with s:=R.s.ticks 0 (R.rcs r ((rdsOf R ps r z).take i))} lg vw X (w6.heap.size+1) (fun m=>if m∈(rdsOf R ps r z).take i then V m r else [])) (fun q _=>(rdsOf R ps r z).length-(intOf q).toNat);case atStart=>exact⟨0,by omega,rfl,HL0.out⟩
   case round=>
    obtain⟨i,hi,rfl,hro⟩:=hrel;have HRO:=hid hro;clear hro HL0;by_cases hil:i<(rdsOf R ps r z).length
    ·as_aux_lemma=>
      have K1:Hid (i+1≤(rdsOf R ps r z).length):=hil;obtain⟨hmM,hmu⟩:=Zkh HOK.out HZ.out (Zj hil);have hTK:(rdsOf R ps r z).take (i+1)=(rdsOf R ps r z).take i++ [(rdsOf R ps r z)[i]]:=List.take_succ_eq_append_getElem hil;have hvx:=Zad HWB.out.2.2.2.2.2.2.1 HRO.out.chg (fun g hg e=>e (HVG.out g (HWB.out.2.2.2.2.2.2.1.lt g hg).1));obtain⟨gr,cr,er,hgr1,hgr2,hcr,hfr⟩:=Zb2 hvx (by omega);simp only [Zn]at er;obtain⟨rfl,-,rfl⟩:=er;have ci:=(hcr i hil).trans (Zl9 _ i hil);generalize (rdsOf R ps r z)[i]=m at*;have HTK:=hid hTK;clear hTK hvx hcr hfr;have HSEC:Hid (∀W,Below wr.heap.size wr W->Calls Tryz.prog 68 #[Zs (some ⟨A.q,0,none⟩),O Z m,O Z r] W fun e w'=>∃v,e=.returned (.tuple #[v,.agg #[O Z 0,.int .u16 0]])/\w'.ownsRow W.heap.size 5 1 v 128 (ucells (V m r))/\RwIn w' T A {R with s:=R.s.ticks 0 (R.rcs r ((rdsOf R ps r z).take i)+R.rc m r)} lg vw X/\Chg (fun k=>T k≠0) W w'):=fun W hW=>by
       have h1:=HRO.out.below hW;have hcn:(R.s.ticks 0 (R.rcs r ((rdsOf R ps r z).take i))).cnt 0≤999998000000:=by
        rw[Zb7];have h2:=R.rcs_le r ((rdsOf R ps r z).take i);have h3:((rdsOf R ps r z).take i).length≤16:=by rw[List.length_take];omega
        have h4:((rdsOf R ps r z).take i).length*(R.M+1)≤16*17:=Nat.mul_le_mul h3 (by rw[<-HRM.out];omega);omega
       have k:=Zid h1.rw (HS.out.ticks _) m r hmM HOK.out.hr hcn hsm;rw[RS.rc_s]at k;refine k.mono ?_;rintro e w' ⟨v,rfl,k1,k2,k3⟩;rw[<-Zeu];exact⟨v,rfl,k1,k2,k3⟩
      have HLV:Hid ((V m r).length=128):=HS.out.len m r hmM HOK.out.hr;have hml:(m:Int)<k:=by rw[HRM.out];exact_mod_cast hmM
      have hmk:m<k:=by rw[HRM.out];exact hmM
      have HFIN:Hid (∀W,RoAt wb W T A {R with s:=R.s.ticks 0 (R.rcs r ((rdsOf R ps r z).take i)+R.rc m r)} lg vw X (w6.heap.size+1) (fun x=>if x=m then V m r else if x∈(rdsOf R ps r z).take i then V x r else [])->RoAt wb W T A {R with s:=R.s.ticks 0 (R.rcs r ((rdsOf R ps r z).take (i+1)))} lg vw X (w6.heap.size+1) (fun x=>if x∈(rdsOf R ps r z).take (i+1)then V x r else [])):=fun W hW=>by
       rw[HTK.out,RS.rcs_snoc];refine⟨hW.rw,hW.rows.congr fun x hx=> ?_,hW.chg,hW.ttg,hW.hi⟩;by_cases e:x=m
       ·subst e;rw[Zf rfl,Zf (by simp)]
       ·rw[Ze e]
        by_cases e2:x∈(rdsOf R ps r z).take i
        ·rw[Zf e2,Zf (List.mem_append_left _ e2)]
        ·rw[Ze e2,Ze (by rw[List.mem_append,List.mem_singleton];exact fun h=>h.elim e2 e)]
      have HLO:Hid (∀q,T q≠0->q<wr.heap.size):=fun q hq=>by
       apply Classical.byContradiction;intro hn;exact hq (HVG.out q (by have h1:=HRO.out.hi;have h2:=HRO.out.rows.lt;omega))
      have hv0:T wr.heap.size=0:=HVG.out _ (Zc (Zc (by omega) HRO.out.hi) (Nat.le_of_lt HRO.out.rows.lt));go_wp2;go_region_held3 (fun W=>W.cell? ⟨bp,0,none⟩=some (Zs (some ⟨A.q,0,none⟩))/\W.cell? ⟨w6.heap.size,0,none⟩=some (O Z r))
       (first|exact HS2.out _ HRO.out.chg|exact HS2.out _ (HRO.out.chg.trans (Zm (Zb _ _).drew _))|exact HS2.out _ (HRO.out.chg.alloc _)|exact HS2.out _ (HRO.out.chg.trans (Zm ((Zb _ _).alloc (Za _) _).drew _))|exact HS2.out _ HC8.out|exact HS2.out _ (HC8.out.alloc _)|exact HS2.out _ HR9.out.chg)
       (first
        |(go_at_call 68;(with_reducible refine(HSEC.out (wr.alloc (.cells #[O Z 0,.int .u16 0] 76)).drew ((Zb _ _).alloc (Za _) _).drew).mono ?_);rintro e w8 ⟨v8,rfl,ho8,hr8,hc8⟩;have HR9:=hid (HRO.out.next hr8 rfl hc8 hv0);have hb8:=RoAt.box hc8 hv0;have k0:=hb8.cell 0;have k1:=hb8.cell 1;have f0:=hb8.free 0;have f1:=hb8.free 1;have HB8:=hid hb8;have HO8:=hid ho8;have HC8:=hid (HRO.out.chg.trans ((Zm ((Zb _ _).alloc (Za _) _).drew _).trans hc8));obtain⟨a8,c8,rfl⟩:=Zab ho8;clear ho8 hr8 hc8 hb8)
        |(go_at_call 68;(with_reducible refine(HSEC.out wr.drew (Zb _ _).drew).mono ?_);rintro e w8 ⟨v8,rfl,ho8,hr8,hc8⟩;have HC9:=hid ((Zm (Zb wr.heap.size wr).drew (fun k=>T k≠0)).trans hc8);have HR9:=hid (HRO.out.sec hr8 HC9.out);have HO8:=hid ho8;have HC8:=hid HR9.out.chg;obtain⟨a8,c8,rfl⟩:=Zab ho8;clear ho8 hr8 hc8))
      ·have hn8:=At.new w8 #[O Z 0,.int .u16 0] 76
       have m1:=hn8.cell 1;obtain⟨y8,d8,-,-⟩:=HR9.out.rows.cell (j:=m) (by rw[<-HRM.out];exact hmk);have f8:=HR9.out.rows.free m;have hg8:=HR9.out.rows.lt;clear hn8;go_wp2;have hp:=HFIN.out _ (HR9.out.put m hmM HO8.out HLV.out HLO.out);exact⟨⟨i+1,K1.out,by go_num,hp.below ((Zb _ _).alloc (Za _) _)⟩,by simp[intOf];omega⟩
      ·have hF:=(HB8.out.set 0 (O Z 0)).set 1 (.int .u16 0)
       have m1:((w8.setCell ⟨wr.heap.size,0,none⟩ (O Z 0)).setCell ⟨wr.heap.size,1,none⟩ (.int .u16 0)).cell? ⟨wr.heap.size,1,none⟩=some (.int .u16 0):=hF.cell 1;obtain⟨y8,d8,-,-⟩:=HR9.out.rows.cell (j:=m) (by rw[<-HRM.out];exact hmk);have f8:=HR9.out.rows.free m;have hg8:=HR9.out.rows.lt;have HO9:=hid (Zad HO8.out (box2 w8 wr.heap.size (O Z 0) (.int .u16 0)) (fun q hq e=>Za4 HO8.out HB8.out (by decide) (by rw[hq,e])));clear hF;go_wp2;have hp:=HFIN.out _ (HR9.out.put m hmM HO9.out HLV.out (fun q hq=>Zd (HLO.out q hq) (by rw[show(wr.alloc (.cells #[O Z 0,.int .u16 0] 76)).drew.heap.size=wr.heap.size+1 from Zaa _ _];show wr.heap.size≤_;omega)));exact⟨⟨i+1,K1.out,by go_num,hp⟩,by simp[intOf];omega⟩
    ·obtain rfl:i=(rdsOf R ps r z).length:=by omega
     have hro:=HRO.out;rw[List.take_length]at hro;obtain⟨F1,F2,F3,F4,F5,F6,F7,F8,F9,F10⟩:=HWB.out;have hcz:∀q,w.heap.size≤q->¬T q≠0:=fun q hq e=>e (HVG.out q hq)
     have hX4:=F4.mod hro.chg (hcz _ (by omega));have hX3:=F3.mod hro.chg (hcz _ (Za _));have hX5:=F5.mod hro.chg (hcz _ hsz6);have hX6:=F6.mod hro.chg (fun g hg=>hcz g (F6.row.lt g hg).1) (fun j hj g hg=>hcz g ((F6.dat j hj).lt g hg).1);have hX7:=Zad F7 hro.chg (fun g hg=>hcz g (F7.lt g hg).1);have hXb:=(HB.out.below F2 HB.out.lt).mod hro.chg (fun e=>e tb);have hXs:=(HXS.out.below F2).mod hro.chg (fun g hg=>(fun e=>e (HKT.out g ((HXS.out.row).lt g hg).1))) (fun x hx g hg e=>e (HKT.out g ((HXS.out.dat x hx).lt g hg).1));have hpf:=HOK.out.few;have hM16:R.M≤16:=by rw[<-HRM.out];exact hM
     have HWK:Hid (∀W,Below wr.heap.size wr W->Calls Tryz.prog 146 #[.agg #[O Z k,O Z R.C,O Z R.S],Zt (some ⟨w.heap.size+1,0,none⟩) k k,.agg #[O Z r,.int .u8 (modeOf k ps (parOf k R.C r) z:Nat),O Z (parOf k R.C r:Nat),Zt qa ps.length qc,.slice ra (rdsOf R ps r z).length rc],Zt (some ⟨w6.heap.size+1,0,none⟩) k k] W fun e w'=>∃v X2,e=.returned (.tuple #[v,.int .u16 0])/\ORow w' W.heap.size v X2/\(X2.map (·.1)).Perm (outOf R V ps r z)/\Below W.heap.size W w'):=fun W hW=>by
      rw[HRM.out];rw[HRM.out]at hX4;have hls:=hro.rows.segs.below hW
      have hk:=Zpi R.M R.C R.S r (Zt (some ⟨w.heap.size+1,0,none⟩) R.M R.M) (Zt qa ps.length qc) (.slice ra (rdsOf R ps r z).length rc) _ (fun m=>R.dn m r) ps (lsOf R V ps r z) W HOK.out z HZ.out (Zjk (hX4.below hW hX4.lt)) ((hX6.pseg (by omega)).below hW) ((Zd4 hX7).below hW) hls (by simp[lsOf]) (fun m hm=>by
       have hmr:=Zkh HOK.out HZ.out hm
       refine⟨hmr.1,?_⟩
       unfold lsOf
       rw[Zlh _ hmr.1,Zf (show m∈rdsOf R ps r z from hm)]
       exact HS.out.len m r hmr.1 HOK.out.hr)
      refine hk.mono ?_;rintro e w' ⟨v,X2,rfl,k1,k2,k3,k4⟩;exact⟨v,X2,rfl,k1,k2,k4⟩
     have hrw:=hro.rw;have HS3:Hid (∀W,Below wr.heap.size wr W->W.cell? ⟨bp,0,none⟩=some (Zs (some ⟨A.q,0,none⟩))/\W.cell? ⟨A.q,1,none⟩=some (O Z k)/\W.cell? ⟨A.q,2,none⟩=some (O Z R.C)/\W.cell? ⟨A.q,3,none⟩=some (O Z R.S)/\W.cell? ⟨w6.heap.size,0,none⟩=some (O Z r)/\W.cell? ⟨w6.heap.size,1,none⟩=some (.int .u8 (modeOf k ps (parOf k R.C r) z:Nat))/\W.cell? ⟨w6.heap.size,2,none⟩=some (O Z (parOf k R.C r:Nat))/\W.cell? ⟨w6.heap.size,3,none⟩=some (Zt qa ps.length qc)/\W.cell? ⟨w6.heap.size,4,none⟩=some (.slice ra (rdsOf R ps r z).length rc)):=fun W hW=>by
      have h5:=hX5.below hW hX5.lt;have hq:=(hrw.below hW).rw.cell 1;refine⟨(hXb.below hW hXb.lt).cell 0,by rw[HRM.out];exact hq,(hrw.below hW).rw.cell 2,(hrw.below hW).rw.cell 3,h5.cell 0,h5.cell 1,h5.cell 2,h5.cell 3,h5.cell 4⟩
     have HX3:=hid hX3;have HXB:=hid hXb;have HXX:=hid hXs;have HRW:=hid hrw;have HCW:=hid hro.chg;have HCB:=hid F2;have hszr:w.heap.size+2≤wr.heap.size:=by have h1:=hro.hi;have h2:=hro.rows.lt;omega
     obtain⟨xa,xc,hxe⟩:=Zab hXs.row;subst hxe;clear hro F1 F2 F3 F4 F5 F6 F7 F8 F9 F10 hX3 hX4 hX5 hX6 hX7 hXb hXs hrw HRO HWB HS2 hcz;go_wp2;go_region_held3 (fun W=>W.cell? ⟨bp,0,none⟩=some (Zs (some ⟨A.q,0,none⟩))/\W.cell? ⟨A.q,1,none⟩=some (O Z k)/\W.cell? ⟨A.q,2,none⟩=some (O Z R.C)/\W.cell? ⟨A.q,3,none⟩=some (O Z R.S)/\W.cell? ⟨w6.heap.size,0,none⟩=some (O Z r)/\W.cell? ⟨w6.heap.size,1,none⟩=some (.int .u8 (modeOf k ps (parOf k R.C r) z:Nat))/\W.cell? ⟨w6.heap.size,2,none⟩=some (O Z (parOf k R.C r:Nat))/\W.cell? ⟨w6.heap.size,3,none⟩=some (Zt qa ps.length qc)/\W.cell? ⟨w6.heap.size,4,none⟩=some (.slice ra (rdsOf R ps r z).length rc))
      (first|exact HS3.out _ (Zb _ _)|exact HS3.out _ (Zb _ _).drew|exact HS3.out _ HB9.out)
      (first
       |(go_at_call 146;(with_reducible refine(HWK.out _ (Zb _ _).drew).mono ?_);rintro e w9 ⟨v9,X2,rfl,ho9,hp9,hb9⟩;have HB9:Hid (Below wr.heap.size wr w9):=((Zb _ _).drew.trans hb9);have HO9:=hid ho9;have HP9:=hid hp9;obtain⟨a9,c9,rfl⟩:=Zab ho9.row;clear ho9 hp9 hb9))
     have hXL:X2.length=(outOf R V ps r z).length:=by rw[<-HP9.out.length_eq,Zp]
     have hol:(outOf R V ps r z).length≤ps.length+1:=by
      unfold outOf outPats;rw[Zo,Zp];have h1:=Za7 (stays (fun m=>R.dn m r) ps) ps.length;split
      ·simp;omega
      ·simp;omega
     have hop:0<(outOf R V ps r z).length:=Zts HOK.out;have hX2:0<X2.length:=by omega
     have hX2b:X2.length≤20:=by omega
     clear hXL hol hop;have hsz9:=HB9.out.size;have HXS9:=hid (HXX.out.below HB9.out);have HO9K:=hid (HO9.out.lower (B':=K) (by show K≤wr.drew.heap.size;exact Zc hK (by show w.heap.size≤wr.heap.size;omega)));have HTB9:=hid (HX3.out.below HB9.out HX3.out.lt);have hbat:=HXB.out.below HB9.out HXB.out.lt;have c3:w9.cell? ⟨bp,3,none⟩=some (Zt xa XS.length xc):=hbat.cell 3;have c0:w9.cell? ⟨bp,0,none⟩=some (Zs (some ⟨A.q,0,none⟩)):=hbat.cell 0;have HBT9:=hid hbat;obtain⟨g9,h9⟩:∃g9,a9=some ⟨g9,0,none⟩:=by
      obtain⟨g,cap,e,-⟩:=Zas HO9.out.row hX2;simp only [Zn]at e;exact⟨g,e.1⟩
     subst h9;have HOne:Hid (∀x∈X2,x.2.oneCell'=true):=fun x hx=>by
      obtain⟨a,c,e⟩:=Zab (HO9.out.dat x hx);rw[e];rfl
     have HEL:Hid ((elems (fun i=>opCells (X2.getD i op0)) X2.length).length=X2.length*3):=Zbp (sz:=3) (fun _=>rfl) _;have HTE:Hid (∀W,Calls Tryz.prog 55 #[O Z 0,.int .u16 0] W fun e w'=>e=.returned (.agg #[O Z 0,.int .u16 0])/\Below W.heap.size W w'):=fun W=>Zdf 0 W
     clear hbat
     go_wp2_with (first
      |(refine Zar rfl _ _ 114 167 3 40 rfl Zdi K (Zt xa XS.length xc) XS.length _ rfl HXS9.out.row ⟨g9,0,none⟩ X2.length c9 (elems (fun i=>opCells (X2.getD i op0)) X2.length) rfl HEL.out (HO9.out.cells _ rfl) (Znz X2 HOne.out) (by unfold maxLen;omega) (by omega) (by omega) hX2 ?_;intro v10 w10 hown hloc hch hkp;have HOW:=hid hown;have HCH:=hid hch;obtain⟨a10,c10,rfl⟩:=Zab hown;have hbt:=HBT9.out.mod hch (fun e=>Zah HXS9.out.row HBT9.out (by decide) e);have HBT:=hid hbt;have f3:=hbt.free 3;have HTX:Hid (At (w10.setCell ⟨bp,3,none⟩ (Zt a10 (XS.length+X2.length) c10)) w.heap.size #[O Z 0,.int .u16 0] 76):=((HTB9.out.mod hch (fun e=>Zah HXS9.out.row HTB9.out (by decide) e)).setOther (Zaw HTB9.out HBT9.out (by decide)) _);have d3:w10.cell? ⟨bp,3,none⟩=some (Zt xa XS.length xc):=hbt.cell 3;have d0:w10.cell? ⟨bp,0,none⟩=some (Zs (some ⟨A.q,0,none⟩)):=hbt.cell 0;have hlt10:=hbt.lt;clear hown hloc hch hkp hbt c3 c0)
      |(go_at_call 55;(with_reducible refine(HTE.out _).mono ?_);rintro e w12 ⟨rfl,hb12⟩;have HB12:=hid hb12;have hbx:=(HTX.out.below hb12 HTX.out.lt);have HBX:=hid hbx;have k0:w12.cell? ⟨w.heap.size,0,none⟩=some (O Z 0):=hbx.cell 0;have k1:w12.cell? ⟨w.heap.size,1,none⟩=some (.int .u16 0):=hbx.cell 1;have q0:=hbx.free 0;have q1:=hbx.free 1;clear hbx hb12))
     have hF:=(HBX.out.set 0 (O Z 0)).set 1 (.int .u16 0);have r0:=hF.cell 0;have r1:=hF.cell 1;have HEND:Hid (∃xv' X2,RwIn ((w12.setCell ⟨w.heap.size,0,none⟩ (O Z 0)).setCell ⟨w.heap.size,1,none⟩ (.int .u16 0)) T A {R with s:=R.s.ticks 0 (R.rcs r (rdsOf R ps r z))} lg vw X/\At ((w12.setCell ⟨w.heap.size,0,none⟩ (O Z 0)).setCell ⟨w.heap.size,1,none⟩ (.int .u16 0)) bp (batCells A pv rv xv') 120/\ORow ((w12.setCell ⟨w.heap.size,0,none⟩ (O Z 0)).setCell ⟨w.heap.size,1,none⟩ (.int .u16 0)) K xv' (XS++X2)/\(X2.map (·.1)).Perm (outOf R V ps r z)/\Chg (fun q=>T q≠0\/q=bp\/(Value.slice xa XS.length xc).ownBlock=some q) w ((w12.setCell ⟨w.heap.size,0,none⟩ (O Z 0)).setCell ⟨w.heap.size,1,none⟩ (.int .u16 0))):=by
      have hst:Chg (fun q=>q=bp) w10 (w10.setCell ⟨bp,3,none⟩ (Zt a10 (XS.length+X2.length) c10)):=Zk (S:=fun q=>q=bp) (Zl _ _) ⟨bp,3,none⟩ (.inl rfl) _;have hbox:=box2 w12 w.heap.size (O Z 0) (.int .u16 0)
      have happ:=HXS9.out.app HO9K.out HCH.out (fun x hx y hy g hg e=>by
       have h1:=((HXX.out.dat x hx).lt g hg).2
       have h2:=((HO9.out.dat y hy).lt g e).1
       have h3:wr.heap.size≤g:=h2
       omega) HOW.out
      have hb11:=HBT.out.set 3 (Zt a10 (XS.length+X2.length) c10);have hb12:=hb11.below HB12.out hb11.lt;have hr9:=HRW.out.below HB9.out;have hr10:=hr9.keepS HCH.out (fun q hq=>HKT.out q (HXS9.out.row.lt q hq).1) (fun q hq=>hr9.offOwn HXS9.out.row hq) (fun q hq e=>by have h1:=hvK q e;have h2:=(HXS9.out.row.lt q hq).1;omega) (fun x hx q hq e=>Zbl (hr9.wt.dat x hx) HXS9.out.row (by decide) hq e);have hr11:=hr10.keepS hst (fun q hq=>by rw[hq];exact tb) (fun q hq=>by rw[hq];exact hr10.offAt HBT.out (by decide) (by decide) (by decide) (by decide)) (fun q hq e=>hr10.wOff HBT.out (by decide) (by rw[e,hq])) (fun x hx q hq e=>hr10.xOff HBT.out (by decide) x hx (by rw[e,hq]));have hr12:=hr11.below HB12.out;refine⟨_,X2,hr12.box HBX.out (HVG.out _ (Za _)) hbox,hb12.mod hbox (Zaw hb12 HBX.out (by decide)),?_,HP9.out,?_⟩
      ·have h1:=happ.mod hst (fun g hg e=>Zah happ.row HBT.out (by decide) (by rw[hg,e])) (fun x hx g hg e=>Zah (happ.dat x hx) HBT.out (by decide) (by rw[hg,e]))
       have h2:=h1.below HB12.out;exact h2.mod hbox (fun g hg e=>Zah h2.row HBX.out (by decide) (by rw[hg,e])) (fun x hx g hg e=>Zah (h2.dat x hx) HBX.out (by decide) (by rw[hg,e]))
      ·have h1:Chg (fun q=>T q≠0\/q=bp\/(Value.slice xa XS.length xc).ownBlock=some q) w wr:=Zaj (Zm HCB.out _) HCW.out (fun q hq e=>.inl e)
       have h2:=h1.trans (Zm HB9.out _);have h3:=Zaj h2 HCH.out (fun q hq e=>.inr (.inr e));have h4:=Zaj h3 hst (fun q hq e=>.inr (.inl e));have h5:=h4.trans (Zm HB12.out _);exact Zaj h5 hbox (fun q hq e=>by omega)
     clear hF HBX HB12 HBT HCH HOW HTX HTE HEL HOne HBT9 HTB9 HO9K HXS9 HP9 HO9 HB9 HS3 HWK HX3 HXB HXX HRW HCW HCB HVG HKT HOK HS HB HXS HZ;(try simp only [Exit.inBlock,Exit.then]);refine bodyPost_ret (v:=.agg #[O Z 0,.int .u16 0]) ?_ rfl ⟨rfl,HEND.out⟩;rw[Zai rfl];go_simp;try rfl
end Go.Proofs.YtmemlkmnhcealaaGreat
