/- Several texts in one: RlR, RlRe. -/
import Derived.Test.YtebmephdnjccjaaGreatExt2
set_option linter.unusedVariables false
set_option maxRecDepth 100000
set_option maxHeartbeats 32000000
namespace Go.Proofs.YtebmephdnjccjaaGreat
open Go.RowKit
theorem RowsWhole_no (m c s ring:Int) (lazy:Bool) (more down:Int) (v:Value) (l:List ROp) (w:World) (hv:ROpSeg w v l) (h:mayIs m c s ring=false):
  Calls Tryz.prog 5 #[madeVal m c s ring lazy more,.int .i64 down,v] w fun e w'=>e=.returned (.bool true)/\Below w.heap.size w w':=by
 have hb0:Below w.heap.size w (w.alloc (.cells #[.int .i64 m,.int .i64 c,.int .i64 s,.int .i64 ring,.bool lazy,.int .i64 more] 25)):=(Below.refl _ _).alloc (Nat.le_refl _) _;have ha0:At (w.alloc (.cells #[.int .i64 m,.int .i64 c,.int .i64 s,.int .i64 ring,.bool lazy,.int .i64 more] 25)) w.heap.size #[.int .i64 m,.int .i64 c,.int .i64 s,.int .i64 ring,.bool lazy,.int .i64 more] 25:=At.new _ _ _;have KU:=Lib.hid (r14_much m c s v l _ (hv.below hb0));have KK:Hid (∀W,Calls Tryz.prog 10 #[] W fun e w'=>e=.returned (.bool true)/\Below W.heap.size W w'):=r14_known;have KB:=Lib.hid (fun W=>r14_begun_no m c s ring lazy more down W h);have KM:=Lib.hid (fun W=>r14_may m c s ring lazy more W h);have HB0:=Lib.hid hb0;have HA0:=Lib.hid ha0;have hl0:=ha0.lt;unfold madeVal geo at*;clear hb0 ha0 h hv;go_enter Tryz.func5,Tryz.ntmps5
 go_wp2_with (first
  |(go_at_call 9;(with_reducible refine KU.out.mono ?_);rintro e w1 ⟨r,rfl,hr,hb1⟩;have HB1:=Lib.hid (below_then HB0.out hb1);have HA1:=Lib.hid (HA0.out.below hb1 HA0.out.lt);clear hr hb1)
  |(go_at_call 10;(with_reducible refine(KK.out _).mono ?_);rintro e w2 ⟨rfl,hb2⟩;have HB2:=Lib.hid (below_then HB1.out hb2);have ha2:=HA1.out.below hb2 HA1.out.lt;have c0:=ha2.cell 0;have c1:=ha2.cell 1;have c2:=ha2.cell 2;have c3:=ha2.cell 3;have c4:=ha2.cell 4;have c5:=ha2.cell 5;have hl2:=ha2.lt;have HA2:=Lib.hid ha2;clear ha2 hb2)
  |(go_at_call 11;(with_reducible refine(KB.out _).mono ?_);rintro e w3 ⟨rfl,hb3⟩;clear c0 c1 c2 c3 c4 c5;have HB3:=Lib.hid (below_then HB2.out hb3);have ha3:=HA2.out.below hb3 HA2.out.lt;have c0:=ha3.cell 0;have c1:=ha3.cell 1;have c2:=ha3.cell 2;have c3:=ha3.cell 3;have c4:=ha3.cell 4;have c5:=ha3.cell 5;have hl3:=ha3.lt;clear ha3 hb3)
  |(go_at_call 12;(with_reducible refine(KM.out _).mono ?_);rintro e w4 ⟨rfl,hb4⟩;have HB4:=Lib.hid (below_then HB3.out hb4);clear hb4))
 all_goals (first|(go_ret;exact⟨rfl,HB4.out⟩)|(go_ret;exact⟨rfl,HB1.out⟩))
theorem RowsWhole_go (M C S ring:Nat) (lazy:Bool) (more down:Int) (v:Value) (l:List ROp) (w:World) (hv:ROpSeg w v l) (hg:geoIs M C S=true) (h5:5≤ring) (h6:ring≤2048):
  Calls Tryz.prog 5 #[madeVal M C S ring lazy more,.int .i64 down,v] w fun e w'=>e=.returned (.bool true)/\Below w.heap.size w w':=by
 have hb0:Below w.heap.size w (w.alloc (.cells #[.int .i64 M,.int .i64 C,.int .i64 S,.int .i64 ring,.bool lazy,.int .i64 more] 25)):=(Below.refl _ _).alloc (Nat.le_refl _) _;have ha0:At (w.alloc (.cells #[.int .i64 M,.int .i64 C,.int .i64 S,.int .i64 ring,.bool lazy,.int .i64 more] 25)) w.heap.size #[.int .i64 M,.int .i64 C,.int .i64 S,.int .i64 ring,.bool lazy,.int .i64 more] 25:=At.new _ _ _;have KU:=Lib.hid (r14_much M C S v l _ (hv.below hb0));have KK:Hid (∀W,Calls Tryz.prog 10 #[] W fun e w'=>e=.returned (.bool true)/\Below W.heap.size W w'):=r14_known;have KB:=Lib.hid (fun W=>r14_begun M C S ring lazy more down W hg h5 h6);have HGO:Hid (∀W,Calls Tryz.prog 29 #[.agg #[.int .i64 M,.int .i64 C,.int .i64 S],.int .i64 down] W fun e w'=>e=.returned (.int .i64 (goneOf M down))/\Below W.heap.size W w'):=fun W=>r14_gone M C S down W
 have HRW:Hid (∀W,Calls Tryz.prog 30 #[.agg #[.int .i64 M,.int .i64 C,.int .i64 S]] W fun e w'=>e=.returned (.int .i64 ((S*C:Nat):Int))/\Below W.heap.size W w'):=fun W=>(ref_rows M C S W).mono fun e w' ⟨x1,x2⟩=>⟨by rw[x1];unfold geoRows;rw[if_pos hg,Int.natCast_mul],x2⟩
 have hgp:=geo_pos hg;have hm1:=hgp.1;have hm2:=hgp.2.1;have hb1':=hgp.2.2.1;have hb2':=hgp.2.2.2;clear hgp;generalize hBB:S*C=B at*;have HBB:=Lib.hid hBB;clear hBB;have HB0:=Lib.hid hb0;have HA0:=Lib.hid ha0;have hl0:=ha0.lt;have HV:=Lib.hid hv;have HR6:=Lib.hid h6;have hlf:=hv.few;obtain⟨va,vc,rfl⟩:=hv.shape;unfold madeVal geo at*;clear hb0 ha0 hv h5 h6;go_enter Tryz.func5,Tryz.ntmps5
 go_wp2_with (first
  |(go_at_call 9;(with_reducible refine KU.out.mono ?_);rintro e w1 ⟨r,rfl,hr,hb1⟩;have HMU:=Lib.hid hr;have HB1:=Lib.hid (below_then HB0.out hb1);have HA1:=Lib.hid (HA0.out.below hb1 HA0.out.lt);clear hr hb1)
  |(go_at_call 10;(with_reducible refine(KK.out _).mono ?_);rintro e w2 ⟨rfl,hb2⟩;have HB2:=Lib.hid (below_then HB1.out hb2);have ha2:=HA1.out.below hb2 HA1.out.lt;have c0:=ha2.cell 0;have c1:=ha2.cell 1;have c2:=ha2.cell 2;have c3:=ha2.cell 3;have c4:=ha2.cell 4;have c5:=ha2.cell 5;have hl2:=ha2.lt;have HA2:=Lib.hid ha2;clear ha2 hb2)
  |(go_at_call 11;(with_reducible refine(KB.out w2).mono ?_);rintro e w3 ⟨T,A,R,rfl,hl3,hbg⟩;clear c0 c1 c2 c3 c4 c5;have HRN:=Lib.hid (hbg.run HR6.out hl3);have HBG:=Lib.hid hbg;have HMD:Hid (∀W,Below w2.heap.size w2 W->At W w.heap.size #[.int .i64 M,.int .i64 C,.int .i64 S,.int .i64 ring,.bool lazy,.int .i64 more] 25):=(fun W hW=>HA2.out.below hW HA2.out.lt);have HVV:Hid (∀W,Below w2.heap.size w2 W->ROpSeg W (.slice va l.length vc) l):=(fun W hW=>HV.out.below (HB2.out.trans (hW.mono HB2.out.size)));have HBE:Hid (∀W,Below w2.heap.size w2 W->Below w.heap.size w W):=(fun W hW=>HB2.out.trans (hW.mono HB2.out.size));have HM3:=Lib.hid (HMD.out w3 hl3.bel);clear hl3 hbg))
 any_goals (first|(go_ret;exact⟨rfl,HB1.out⟩)|skip)
 have HFW:Hid (FewOps M C S l):=HMU.out (by first|assumption|(exact Bool.eq_false_iff.2 (by assumption))|(cases r<;>simp_all));have HF0:Hid (R.fr=fun j:Nat=>if (j:Int)=goneOf M down then 0 else -1):=HBG.out.fr;go_loopw [10] (fun q wr=>∃k:Nat,k≤l.length/\q=.int .i64 k/\∃T R V,RnAt w2 wr T A R V M C S ring lazy (spentA k) (spentB l k)/\R.fr=fun j:Nat=>if (j:Int)=goneOf M down then 0 else -1) (fun q _=>l.length-(intOf q).toNat);case atStart=>exact⟨0,by omega,rfl,T,R,zeroV,by have h:=HRN.out;unfold spentA spentB;exact h,HF0.out⟩
 case round=>
  clear HRN HM3 HBG HF0 T R;obtain⟨k,hk,rfl,T,R,V,hrn,hfr⟩:=hrel;have HRN:=Lib.hid hrn;have HFR:=Lib.hid hfr;clear hrn hfr;by_cases hkl:k<l.length
  ·have K1:Hid (k+1≤l.length):=hkl
   have hsel:=HVV.out w2 (Below.refl _ _);obtain⟨bb,off,rfl,hlt,hx⟩:=hsel.full (by omega);obtain⟨x0,-,-,-,⟨u4,x4,q4⟩,-,-⟩:=hx k hkl;obtain⟨pa,pc,rfl⟩:=q4.shape;have hbw:=HRN.out.at'.bel;have y0:=(hbw.cell (p:=⟨bb,off+k*7,none⟩) hlt).trans x0;have y4:=(hbw.cell (p:=⟨bb,off+k*7+4,none⟩) hlt).trans x4;have hlt':bb<wr.heap.size:=Nat.lt_of_lt_of_le hlt hbw.size;have HQ4:=Lib.hid q4;have hin:=spent_in HFW.out hk;have hsb:=spentB_succ hkl;have hsa:=spentA_succ k;have hbb:spentB l k+8*(l[k]'hkl).puts.length+4≤600000:=by
    have:=(spent_in HFW.out (show k+1≤l.length from hkl)).b;omega
   have HNX:Hid (∀W T R V a b,RnAt w2 W T A R V M C S ring lazy a b->a≤spentA k+10000000->b≤spentB l k+8*(l[k]'hkl).puts.length+4->RnAt w2 W T A R V M C S ring lazy (spentA (k+1)) (spentB l (k+1))):=fun W T R V a b h h1 h2=>⟨h.at',h.bud.mono (by omega) (by omega),h.M,h.C,h.S,h.size,h.lazy⟩
   have HIN:Hid (∀a b,a≤spentA k+10000000->b≤spentB l k+8*(l[k]'hkl).puts.length+4->Within a b):=fun a b h1 h2=>⟨by have:=hin.a;omega,by omega⟩
   clear x0 x4 q4 hx hsel hin hsb hsa hbb;generalize hkd:(l[k]'hkl).kind=kd at*;generalize (l[k]'hkl).puts=us at*;generalize spentB l k=sb at*;generalize spentA k=sa at*;clear hkd;by_cases hk2:kd=2
   ·subst hk2
    go_wp2_with (first
     |(go_at_call 16;(with_reducible refine(l_write HRN.out.at' HRN.out.bud (HIN.out _ _ (by omega) (by omega)) _ us HQ4.out).mono ?_);rintro e w4 ⟨rfl,T1,R1,V1,hl1,hs1,hb1,hsm1,-⟩;have HP:=Lib.hid (HRN.out.mk' hl1 hb1 hsm1);have HFP:=Lib.hid (hsm1.fr.trans HFR.out);clear hl1 hs1 hb1 hsm1))
    exact⟨⟨k+1,K1.out,by go_num,_,_,_,HNX.out _ _ _ _ _ _ HP.out (by omega) (by omega),HFP.out⟩,by simp[intOf];omega⟩
   ·have hkn:(kd==2)=false:=beq_eq_false_iff_ne.2 hk2
    go_wp2;exact⟨⟨k+1,K1.out,by go_num,_,_,_,HNX.out _ _ _ _ _ _ HRN.out (by omega) (by omega),HFR.out⟩,by simp[intOf];omega⟩
  ·obtain rfl:k=l.length:=by omega
   have hsp:=spent_in HFW.out (Nat.le_refl l.length);have HW5:Hid (Within (spentA l.length+50000000) (spentB l l.length+4)):=⟨by have:=HFW.out.few;unfold spentA;omega,hsp.b⟩;generalize spentB l l.length=sb at*;generalize spentA l.length=sa at*;have HIN:Hid (∀a b,a≤sa+10000000->b≤sb+4->Within a b):=fun a b h1 h2=>⟨by have:=hsp.a;omega,by have:=hsp.b;omega⟩
   clear hsp;have HI4:Hid (Within sa sb):=HIN.out _ _ (by omega) (by omega);have HI5:Hid (Within (sa+1000+2000000) (sb+1)):=HIN.out _ _ (by omega) (by omega);have HGD:Hid (0≤goneOf M down\/(goneOf M down<0/\goneOf M down= -1)):=by
    show _\/_
    unfold goneOf;split<;>omega
   rcases HGD.out with hgd|⟨hgd,hgd1⟩
   ·generalize goneOf M down=gd at*
    go_wp2_with (first
     |(go_at_call 21;(with_reducible refine(l_empty HRN.out.at' HRN.out.bud HI4.out).mono ?_);rintro e w4 ⟨rfl,T4,R4,hl4,hs4,hb4,hsm4,hw4,-,-⟩;have HL4:=Lib.hid (HRN.out.mk' hl4 hb4 hsm4);have HPM:Hid ((M:Int)=((R4.M:Nat):Int)/\(C:Int)=((R4.C:Nat):Int)/\(S:Int)=((R4.S:Nat):Int)):=⟨by rw[HL4.out.M],by rw[HL4.out.C],by rw[HL4.out.S]⟩;have hm4:=HMD.out w4 hl4.bel;have c0:=hm4.cell 0;have c1:=hm4.cell 1;have c2:=hm4.cell 2;have hml4:=hm4.lt;clear hm4 hl4 hs4 hb4 hsm4 hw4)
     |(go_at_call 24;(with_reducible refine(l_reads2 HL4.out.at' HL4.out.bud HI5.out HPM.out.1 HPM.out.2.1 HPM.out.2.2).mono ?_);rintro e w5 ⟨x5,n5,c5,k5,rfl,-,hl5,-,-⟩;have HL5:=Lib.hid hl5;clear c0 c1 c2;have hm5:=HMD.out w5 hl5.bel;have c0:=hm5.cell 0;have c1:=hm5.cell 1;have c2:=hm5.cell 2;have hml5:=hm5.lt;clear hm5 hl5)
     |(go_at_call 29;(with_reducible refine(HGO.out w5).mono ?_);rintro e w6 ⟨rfl,hb6⟩;have HL6:=Lib.hid (HL5.out.below hb6);clear hb6))
    go_ret;exact⟨rfl,HBE.out _ HL6.out.bel⟩
   ·have HFR2:Hid (R.fr=fun _=> -1):=by
     show R.fr=_
     rw[HFR.out];funext j;rw[if_neg (by omega)]
    clear hgd1 HGD HFR;generalize goneOf M down=gd at*
    go_wp2_with (first
     |(go_at_call 21;(with_reducible refine(l_empty HRN.out.at' HRN.out.bud HI4.out).mono ?_);rintro e w4 ⟨rfl,T4,R4,hl4,hs4,hb4,hsm4,hw4,-,he4⟩;have HL4:=Lib.hid (HRN.out.mk' hl4 hb4 hsm4);have HW4:=Lib.hid hw4;have HC4:=Lib.hid (HRN.out.at'.good.clean he4);have HF4:=Lib.hid (hsm4.fr.trans HFR2.out);have HPM:Hid ((M:Int)=((R4.M:Nat):Int)/\(C:Int)=((R4.C:Nat):Int)/\(S:Int)=((R4.S:Nat):Int)):=⟨by rw[HL4.out.M],by rw[HL4.out.C],by rw[HL4.out.S]⟩;have hm4:=HMD.out w4 hl4.bel;have c0:=hm4.cell 0;have c1:=hm4.cell 1;have c2:=hm4.cell 2;have hml4:=hm4.lt;clear hm4 hl4 hs4 hb4 hsm4 hw4 he4)
     |(go_at_call 24;(with_reducible refine(l_reads2 HL4.out.at' HL4.out.bud HI5.out HPM.out.1 HPM.out.2.1 HPM.out.2.2).mono ?_);rintro e w5 ⟨x5,n5,c5,k5,rfl,hv5,hl5,-,hk5⟩;have HL5:=Lib.hid hl5;have HV5:=Lib.hid hv5;have HK5:=Lib.hid hk5;clear c0 c1 c2;have hm5:=HMD.out w5 hl5.bel;have c0:=hm5.cell 0;have c1:=hm5.cell 1;have c2:=hm5.cell 2;have hml5:=hm5.lt;clear hm5 hl5 hv5 hk5)
     |(go_at_call 29;(with_reducible refine(HGO.out w5).mono ?_);rintro e w6 ⟨rfl,hb6⟩;have HL6:=Lib.hid (HL5.out.below hb6);have HV6:=Lib.hid (HV5.out.below hb6);clear c0 c1 c2;have hm6:=HMD.out w6 HL6.out.bel;have c0:=hm6.cell 0;have c1:=hm6.cell 1;have c2:=hm6.cell 2;have hml6:=hm6.lt;clear hm6 hb6)
     |(go_at_call 30;(with_reducible refine(HRW.out w6).mono ?_);rintro e w7 ⟨rfl,hb7⟩;have HL7:=Lib.hid (HL6.out.below hb7);have HV7:=Lib.hid (HV6.out.below hb7);clear c0 c1 c2 hb7)
     |(refine wpList_make_same rfl _ _ 35 5 1 1 rfl slice_bytes (.int .u8 0) (by kernel_rfl) _ _ _ _ (128*B) rfl rfl rfl rfl (by omega) (by unfold maxLen;omega) ?_;intro w8 a8 b8;have HS8:=Lib.hid (And.intro a8 b8);clear a8 b8))
    have HWH:Hid (WhAt w2 w8 T4 A {R4 with s:=R4.s.ticks 0 k5} V M C S ring lazy (sa+1000+1044480) (sb+1) (.slice x5 n5 c5) w7.heap.size (128*B) (sumOf V 0)):=by
     have hl7:=HL7.out;obtain⟨lg,vw,X,hr⟩:=hl7.rw;refine⟨⟨⟨hl7.below HS8.out.2,(HL4.out.bud.ticks k5).mono (by have:=HK5.out;omega) (by omega),HL4.out.M,HL4.out.C,HL4.out.S,HL4.out.size,HL4.out.lazy⟩,HV7.out.below HS8.out.2⟩,⟨lg,vw,X,hr.below HS8.out.2,hr.low⟩,fun g hg=> ?_,?_,hl7.virg _ (Nat.le_refl _),hl7.bel.size⟩
     ·obtain⟨⟨B',ho⟩,-⟩:=HV7.out
      exact(ho.lt g hg).2
     ·have e:=HS8.out.1
      rw[ufn_zeros]at e;exact e
    have HCL:Hid (∀m,m<M->∃L:List Sec,R4.s.image (m:Int)=(0,some L)/\L.length=1+B/\(∀s∈L,s.length=128)/\∀i,i<128*B->L.flatten[128+i]?=some (byteOf V m i)):=fun m hm=>by
     have hg4:=HL4.out.at'.good;have hbb:R4.S*R4.C=B:=by rw[HL4.out.S,HL4.out.C];exact HBB.out
     have hm4:m<R4.M:=by rw[HL4.out.M];exact hm
     obtain⟨L,i1,i2,i3,i4⟩:=HC4.out.image hg4 HW4.out hm4 (fun r=>by unfold RS.dn;rw[HF4.out];simp);refine⟨L,i1,by rw[i2,hbb],i3,fun i hi=>image_byte hg4 hm4 i2 i3 i4 (by rw[hbb];exact hi)⟩
    have HZE:Hid (∀i,i<128*B->sumOf V M i=0):=fun i hi=>by
     have:=sumOf_all HL4.out.at'.good (i:=i) (by rw[HL4.out.S,HL4.out.C,HBB.out];exact hi);rw[HL4.out.M]at this;exact this
    clear HS8 HL7 HV7 HL6 HV6 HL5 HV5 HPM;obtain⟨sq,hsq⟩:∃sq,sq=w7.heap.size:=⟨_,rfl⟩;rw[<-hsq]at HWH ⊢;clear hsq;obtain⟨al,hal⟩:∃al:Value,al=.slice x5 n5 c5:=⟨_,rfl⟩;rw[<-hal]at HWH;have HAL:=Lib.hid hal;clear hal;go_loopw [14] (fun q wr=>∃m:Nat,m≤M/\q=.int .i64 m/\WhAt w2 wr T4 A {R4 with s:=R4.s.ticks 0 k5} V M C S ring lazy (sa+1000+1044480) (sb+1) al sq (128*B) (sumOf V m)) (fun q _=>M-(intOf q).toNat);case atStart=>exact⟨0,by omega,rfl,HWH.out⟩
    case round=>
     clear HWH;obtain⟨m,hm,rfl,hwh⟩:=hrel;have HWH:=Lib.hid hwh;have hmd:=HMD.out wr hwh.tl.run.at'.bel;have c0:=hmd.cell 0;have hmdl:=hmd.lt;clear hwh hmd;by_cases hmM:m<M
     ·have M1:Hid (m+1≤M):=hmM
      obtain⟨L,hi1,hi2,hi3,hi4⟩:=HCL.out m hmM;have HI1:Hid (BaySt.image ({R4 with s:=R4.s.ticks 0 k5}:RS).s (m:Int)=(0,some L)):=hi1;have HI4':=Lib.hid hi4;have HLL:Hid (128*L.length=128*B+128):=by show _=_;omega
      have HLF:Hid (L.flatten.length=128*B+128):=by show _=_;rw[flatten_length hi3];omega
      clear hi1 hi2 hi3 hi4
      go_wp2_with (first
       |(go_at_call 31;((with_reducible refine(l_image HWH.out.tl.run.at' m HI1.out).mono ?_);rintro e w9 ⟨v9,rfl,hb9,ho9⟩;rw[HLL.out]at ho9;have HB9:=Lib.hid (HWH.out.below hb9);have hs9:wr.heap.size≤w9.heap.size:=hb9.size;have hsw:sq<wr.heap.size:=HWH.out.sum.lt;have hsg:=seg_of_row ho9;have hsf:=hsg.full (by rw[HLF.out];omega);obtain⟨ib,io,ic,hve,hil,hix⟩:=hsf;rw[HLF.out]at hve;subst hve;have HIB:Hid (wr.heap.size≤ib):=(ho9.lt ib rfl).1;have HIL:=Lib.hid hil;have HIX:Hid (∀i,i<128*B->w9.cell? ⟨ib,io+(128+i),none⟩=some (.int .u8 (((byteOf V m i).toNat:Nat):Int))):=(fun i hi=>by have h1:=HI4'.out i hi;have h2:=hix (128+i) (by rw[HLF.out];omega);rw[List.getElem?_eq_getElem (by rw[HLF.out];omega)]at h1;rw[Option.some.inj h1]at h2;exact h2);clear hsg hix ho9 hb9 c0 hil)))
      obtain⟨wo,rfl⟩:∃wo:World,wo=wr:=⟨_,rfl⟩;have hne:ib≠sq:=by have:=HIB.out;omega
      go_loopw [17] (fun q wi=>∃i:Nat,i≤128*B/\q=.int .i64 i/\WhAt w2 wi T4 A {R4 with s:=R4.s.ticks 0 k5} V M C S ring lazy (sa+1000+1044480) (sb+1) al sq (128*B) (fun j=>if j<i then sumOf V (m+1) j else sumOf V m j)/\Chg (fun q=>q=sq) w9 wi) (fun q _=>128*B-(intOf q).toNat);case atStart=>exact⟨0,by omega,rfl,HB9.out.congr (fun j _=>by rw[if_neg (by omega)]),Chg.refl _ _⟩
      case round=>
       obtain⟨i,hi,rfl,hwi,hci⟩:=hrel;have HWI:=Lib.hid hwi;have HCI:=Lib.hid hci;by_cases hin:i<128*B
       ·have I1:Hid (i+1≤128*B):=hin
        have d1:wr.cell? ⟨sq,i,none⟩=some (.int .u8 (((sumOf V m i).toNat:Nat):Int)):=by
         rw[hwi.sum.cell,ufn_at _ _ _ hin];simp
        have d2:wr.cell? ⟨ib,io+(128+i),none⟩=some (.int .u8 (((byteOf V m i).toNat:Nat):Int)):=(hci.cell (p:=⟨ib,io+(128+i),none⟩) HIL.out hne).trans (HIX.out i hin);have f1:=hwi.sum.free i;have hsl:=hwi.sum.lt;have hil:ib<wr.heap.size:=Nat.lt_of_lt_of_le HIL.out hci.size;have HX8:Hid (bits .xor .u8 (((sumOf V m i).toNat:Nat):Int) (((byteOf V m i).toNat:Nat):Int)=(((sumOf V (m+1) i).toNat:Nat):Int)):=by rw[sumOf_succ];exact bits_xor8 _ _
        clear hwi hci;generalize (((sumOf V m i).toNat:Nat):Int)=x8 at*;generalize (((byteOf V m i).toNat:Nat):Int)=y8 at*;go_wp2;go_region;rw[HX8.out];have HWN:Hid (WhAt w2 (wr.setCell ⟨sq,i,none⟩ (.int .u8 (((sumOf V (m+1) i).toNat:Nat):Int))).drew T4 A {R4 with s:=R4.s.ticks 0 k5} V M C S ring lazy (sa+1000+1044480) (sb+1) al sq (128*B) (fun j=>if j<i+1 then sumOf V (m+1) j else sumOf V m j)):=
         (HWI.out.set i (sumOf V (m+1) i) (g:=fun j=>if j<i+1 then sumOf V (m+1) j else sumOf V m j) (fun j hj=>by
          show(if j<i+1 then sumOf V (m+1) j else sumOf V m j)=if j=i then sumOf V (m+1) i else if j<i then sumOf V (m+1) j else sumOf V m j
          by_cases e:j=i
          ·rw[if_pos (by omega),if_pos e,e]
          ·rw[if_neg e]
           by_cases e2:j<i
           ·rw[if_pos (by omega),if_pos e2]
           ·rw[if_neg (by omega),if_neg e2])).below (Below.refl _ _).drew
        have HCN:Hid (Chg (fun q=>q=sq) w9 (wr.setCell ⟨sq,i,none⟩ (.int .u8 (((sumOf V (m+1) i).toNat:Nat):Int))).drew):=(HCI.out.trans (Chg.setCell (S:=fun q=>q=sq) (Chg.refl _ _) ⟨sq,i,none⟩ (.inl rfl) _)).drew;clear HX8 f1 d1 d2;go_wp2;exact⟨⟨i+1,I1.out,by go_num,HWN.out,HCN.out⟩,by simp[intOf];omega⟩
       ·obtain rfl:i=128*B:=by omega
        clear hwi hci;go_wp2;exact⟨⟨m+1,M1.out,by go_num,HWI.out.congr (fun j hj=>by rw[if_pos hj])⟩,by simp[intOf];omega⟩
     ·obtain rfl:M=m:=by omega
      obtain⟨wz,rfl⟩:∃wz:World,wz=wr:=⟨_,rfl⟩;clear hmM;go_wp2;go_loopw [18] (fun q wi=>∃i:Nat,i≤128*B/\q=.int .i64 i/\wi=wz) (fun q _=>128*B-(intOf q).toNat);case atStart=>exact⟨0,by omega,rfl,by first|rfl|trivial⟩
      case round=>
       obtain⟨i,hi,rfl,hw⟩:=hrel;obtain rfl:wz=wr:=hw.symm;by_cases hin:i<128*B
       ·have I1:Hid (i+1≤128*B):=hin
        have d1:wz.cell? ⟨sq,i,none⟩=some (.int .u8 0):=by
         rw[HWH.out.sum.cell,ufn_at _ _ _ hin,HZE.out i hin];rfl
        have hsl:=HWH.out.sum.lt;go_wp2;exact⟨⟨i+1,I1.out,by go_num,by first|rfl|trivial⟩,by simp[intOf];omega⟩
       ·obtain rfl:i=128*B:=by omega
        clear hin;have HSAME:Hid (allOf {R4 with s:=R4.s.ticks 0 k5} V=allOf R4 V):=rfl;have HM0:Hid (∃R',LAt w2 wz T4 A R' V/\R'.fr=(fun _=> -1)/\R'.M=M/\R'.C=C/\R'.S=S/\Bud R' (sa+1000+1044480) (sb+1)/\allOf R' V=allOf R4 V/\ByteRow wz T4 al (allOf R4 V)):=⟨_,HWH.out.tl.run.at',HF4.out,HWH.out.tl.run.M,HWH.out.tl.run.C,HWH.out.tl.run.S,HWH.out.tl.run.bud,rfl,HWH.out.tl.row⟩;clear HWH HCL HZE HSAME;go_wp2;go_loopw [19] (fun q wi=>∃m:Nat,m≤M/\q=.int .i64 m/\∃R',LAt w2 wi T4 A R' V/\R'.fr=(fun _=> -1)/\R'.M=M/\R'.C=C/\R'.S=S/\Bud R' (sa+1000+1044480+1044480*m) (sb+1)/\allOf R' V=allOf R4 V/\ByteRow wi T4 al (allOf R4 V)) (fun q _=>M-(intOf q).toNat);case atStart=>exact⟨0,by omega,rfl,HM0.out⟩
        case round=>
         clear HM0;obtain⟨m,hm,rfl,R',hl,hfr,hM,hC,hS,hbu,hsa,hrow⟩:=hrel;have HL:=Lib.hid hl;have HFRR:=Lib.hid hfr;have HPM:Hid ((M:Int)=((R'.M:Nat):Int)/\(C:Int)=((R'.C:Nat):Int)/\(S:Int)=((R'.S:Nat):Int)):=⟨by rw[hM],by rw[hC],by rw[hS]⟩;have HEQ:Hid (R'.M=M/\R'.C=C/\R'.S=S):=⟨hM,hC,hS⟩;have HBU:=Lib.hid hbu;have HSA:=Lib.hid hsa;have HROW:=Lib.hid hrow;have hmd:=HMD.out wr hl.bel;have c0:=hmd.cell 0;have hmdl:=hmd.lt;clear hl hfr hM hC hS hbu hsa hrow hmd;by_cases hmM:m<M
         ·have M1:Hid (m+1≤M):=hmM
          have HMR:Hid (m<R'.M):=by show _<_;rw[HEQ.out.1];exact hmM
          have HI7:Hid (Within (sa+1000+1044480+1044480*m+2000000) (sb+1)):=by
           have h:=HW5.out;exact⟨by have:=h.a;omega,by have:=h.b;omega⟩
          have HFEW:Hid ((allOf R4 V).length≤9223372036854775807):=by show _≤_;rw[<-HSA.out];exact Nat.le_trans (allOf_few HL.out.good) (by omega)
          go_wp2_with (first
           |(go_at_call 32;((with_reducible refine(l_mark HL.out HFRR.out m HMR.out).mono ?_);rintro e wa ⟨rfl,hla,hsa⟩;have HLA:=Lib.hid hla;have HRA:=Lib.hid (HL.out.bytes hsa HROW.out);clear c0;have hmd:=HMD.out wa hla.bel;have c0:=hmd.cell 0;have c1:=hmd.cell 1;have c2:=hmd.cell 2;have hmdl:=hmd.lt;clear hmd hla hsa))
           |(go_at_call 24;(with_reducible refine(l_reads_marked HLA.out HBU.out HI7.out HPM.out.1 HPM.out.2.1 HPM.out.2.2 HSA.out).mono ?_);rintro e wb ⟨xb,nb,cb,kb,rfl,hvb,hlb,hsb,hkb⟩;have HLB:=Lib.hid hlb;have HRB:=Lib.hid (HLA.out.bytes hsb HRA.out);have HVB:=Lib.hid hvb.seg;have HSRB:Hid (Seg wb (.slice x5 n5 c5) (allOf R4 V)):=(by show Seg _ _ _;rw[<-HAL.out];exact HRB.out.seg);have HKB:=Lib.hid hkb;clear c0 c1 c2 hvb hlb hsb hkb)
           |(go_at_call 15;(with_reducible refine(same_eq HFEW.out HSRB.out HVB.out).mono ?_);rintro e wc ⟨rfl,hbc⟩;have HLC:=Lib.hid (HLB.out.below hbc);have HRC:=Lib.hid (HRB.out.below hbc);clear hbc)
           |(go_at_call 32;go_loud ((with_reducible refine(l_unmark HLC.out HL.out.good HFRR.out HMR.out).mono ?_);rintro e wd ⟨rfl,hld,hsd⟩;have HLD:=Lib.hid hld;have HRD:=Lib.hid (HLC.out.bytes hsd HRC.out);clear hld hsd)))
          exact⟨⟨m+1,M1.out,by go_num,_,HLD.out,HFRR.out,HEQ.out.1,HEQ.out.2.1,HEQ.out.2.2,(HBU.out.ticks kb).mono (by have:=HKB.out;omega) (Nat.le_refl _),HSA.out,HRD.out⟩,by simp[intOf];omega⟩
         ·obtain rfl:M=m:=by omega
          go_wp2;go_ret;exact⟨rfl,HBE.out _ HL.out.bel⟩
open Go.RowKit Go.ChangeShapes Go.WideShapes Go.ChangeAt Go.Deep
theorem rowsWhole_walk {H:Type} (w:World) (enc:TypeId×Value->H) (base:Nat) (v:Value) (d:DataW H) (ps:List MemPlace) (hok:Value.okWide Tryz.prog w .any base 25 v) (h:DataW.Trod enc Tryz.prog w 0 (fun _=>true) true 25 v d ps)
  (a:Int) (_:(Lit.int .i64 a).wf=true)
  (enc':TypeId×Value->H) (base':Nat) (v':Value) (d':DataW H) (ps':List MemPlace) (hok':Value.okWide Tryz.prog w .any base' 26 v') (h':DataW.Trod enc' Tryz.prog w 0 (fun _=>true) true 26 v' d' ps') (hw':∀n∈d'.weights Tryz.prog 26,n≤reachBytes):
  Calls Tryz.prog 5 #[v,.int .i64 a,v'] w fun e w'=>e=.returned (.bool true)/\Below w.heap.size w w':=by
 obtain⟨m,c,s,ring,lazy,more,rfl⟩:=made_of_trod hok h;obtain⟨l,hv⟩:=rops_of_trod hok' h' hw';cases hm:mayIs m c s ring
 ·exact RowsWhole_no m c s ring lazy more a v' l w hv hm
 ·obtain⟨M,C,S,r,rfl,rfl,rfl,rfl,hg,h5,h6⟩:=may_nat hm
  exact RowsWhole_go M C S r lazy more a v' l w hv hg h5 h6
end Go.Proofs.YtebmephdnjccjaaGreat
