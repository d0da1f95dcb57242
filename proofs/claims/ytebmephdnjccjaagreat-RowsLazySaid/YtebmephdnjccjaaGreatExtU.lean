/- Several texts in one: RlU, RlUe. -/
import Derived.Test.YtebmephdnjccjaaGreatExt2
set_option linter.unusedVariables false
set_option maxRecDepth 100000
set_option maxHeartbeats 32000000
namespace Go.Proofs.YtebmephdnjccjaaGreat
open Go.RowKit
theorem RowsLazy_no (m c s ring:Int) (lazy:Bool) (more down:Int) (v:Value) (l:List ROp) (w:World) (hv:ROpSeg w v l) (h:mayIs m c s ring=false):
  Calls Tryz.prog 6 #[madeVal m c s ring lazy more,.int .i64 down,v] w fun e w'=>e=.returned (.bool true)/\Below w.heap.size w w':=by
 have hb0:Below w.heap.size w (w.alloc (.cells #[.int .i64 m,.int .i64 c,.int .i64 s,.int .i64 ring,.bool lazy,.int .i64 more] 25)):=(Below.refl _ _).alloc (Nat.le_refl _) _;have ha0:At (w.alloc (.cells #[.int .i64 m,.int .i64 c,.int .i64 s,.int .i64 ring,.bool lazy,.int .i64 more] 25)) w.heap.size #[.int .i64 m,.int .i64 c,.int .i64 s,.int .i64 ring,.bool lazy,.int .i64 more] 25:=At.new _ _ _;have KU:=Lib.hid (r14_much m c s v l _ (hv.below hb0));have KK:Hid (∀W,Calls Tryz.prog 10 #[] W fun e w'=>e=.returned (.bool true)/\Below W.heap.size W w'):=r14_known;have KB:=Lib.hid (fun W lz=>r14_begun_no m c s ring lz more down W h);have KM:=Lib.hid (fun W=>r14_may m c s ring true more W h);have HB0:=Lib.hid hb0;have HA0:=Lib.hid ha0;have hl0:=ha0.lt;unfold madeVal geo at*;clear hb0 ha0 h hv;go_enter Tryz.func6,Tryz.ntmps6
 go_wp2_with (first
  |(go_at_call 9;(with_reducible refine KU.out.mono ?_);rintro e w1 ⟨r,rfl,hr,hb1⟩;have HB1:=Lib.hid (below_then HB0.out hb1);have HA1:=Lib.hid (HA0.out.below hb1 HA0.out.lt);clear hr hb1)
  |(go_at_call 10;(with_reducible refine(KK.out _).mono ?_);rintro e w2 ⟨rfl,hb2⟩;have HB2:=Lib.hid (below_then HB1.out hb2);have ha2:=HA1.out.below hb2 HA1.out.lt;have f4:=ha2.free 4;have e4:=ha2.cell 4;have hs2:=ha2.set 4 (.bool false);have c0:=hs2.cell 0;have c1:=hs2.cell 1;have c2:=hs2.cell 2;have c3:=hs2.cell 3;have c4:=hs2.cell 4;have c5:=hs2.cell 5;have hl2:=ha2.lt;have HS2:=Lib.hid hs2;have HW2:Hid (w.heap.size<w2.heap.size):=hl2;clear ha2 hb2 hs2)
  |(go_at_call 11;(with_reducible refine(KB.out (w2.setCell ⟨w.heap.size,4,none⟩ (.bool false)) false).mono ?_);rintro e w3 ⟨rfl,hb3⟩;clear f4 e4 c0 c1 c2 c3 c4 c5;have ha3:=HS2.out.below hb3 HS2.out.lt;have f4:=ha3.free 4;have e4:=ha3.cell 4;have hs3:=ha3.set 4 (.bool true);have c0:=hs3.cell 0;have c1:=hs3.cell 1;have c2:=hs3.cell 2;have c3:=hs3.cell 3;have c4:=hs3.cell 4;have c5:=hs3.cell 5;have hl3:=ha3.lt;have HS3:=Lib.hid hs3;have HB3:Hid (Below w.heap.size w w3):=(HB2.out.trans ((chg_set w2 w.heap.size 4 (.bool false)).below fun q hq=>⟨by have:=HW2.out;omega,fun e=>by omega⟩)).trans (hb3.mono (Nat.le_of_lt HS2.out.lt));clear ha3 hs3 hb3)
  |(go_at_call 11;(with_reducible refine(KB.out (w3.setCell ⟨w.heap.size,4,none⟩ (.bool true)) true).mono ?_);rintro e w4 ⟨rfl,hb4⟩;clear f4 e4 c0 c1 c2 c3 c4 c5;have ha4:=HS3.out.below hb4 HS3.out.lt;have c0:=ha4.cell 0;have c1:=ha4.cell 1;have c2:=ha4.cell 2;have c3:=ha4.cell 3;have c4:=ha4.cell 4;have c5:=ha4.cell 5;have hl4:=ha4.lt;have HB4:Hid (Below w.heap.size w w4):=(HB3.out.trans ((chg_set w3 w.heap.size 4 (.bool true)).below fun q hq=>⟨by omega,fun e=>by omega⟩)).trans (hb4.mono (Nat.le_of_lt HS3.out.lt));clear ha4 hb4)
  |(go_at_call 12;(with_reducible refine(KM.out _).mono ?_);rintro e w5 ⟨rfl,hb5⟩;have HB5:=Lib.hid (below_then HB4.out hb5);clear hb5))
 all_goals (first|(go_ret;exact⟨rfl,HB5.out⟩)|(go_ret;exact⟨rfl,HB1.out⟩))
theorem RowsLazy_go (M C S ring:Nat) (lazy:Bool) (more down:Int) (v:Value) (l:List ROp) (w:World) (hv:ROpSeg w v l) (hg:geoIs M C S=true) (h5:5≤ring) (h6:ring≤2048):
  Calls Tryz.prog 6 #[madeVal M C S ring lazy more,.int .i64 down,v] w fun e w'=>e=.returned (.bool true)/\Below w.heap.size w w':=by
 have hb0:Below w.heap.size w (w.alloc (.cells #[.int .i64 M,.int .i64 C,.int .i64 S,.int .i64 ring,.bool lazy,.int .i64 more] 25)):=(Below.refl _ _).alloc (Nat.le_refl _) _;have ha0:At (w.alloc (.cells #[.int .i64 M,.int .i64 C,.int .i64 S,.int .i64 ring,.bool lazy,.int .i64 more] 25)) w.heap.size #[.int .i64 M,.int .i64 C,.int .i64 S,.int .i64 ring,.bool lazy,.int .i64 more] 25:=At.new _ _ _;have KU:=Lib.hid (r14_much M C S v l _ (hv.below hb0));have KK:Hid (∀W,Calls Tryz.prog 10 #[] W fun e w'=>e=.returned (.bool true)/\Below W.heap.size W w'):=r14_known;have KB:=Lib.hid (fun W lz=>r14_begun M C S ring lz more down W hg h5 h6);have HB0:=Lib.hid hb0;have HA0:=Lib.hid ha0;have hl0:=ha0.lt;have HV:=Lib.hid hv;have HR6:=Lib.hid h6;have hlf:=hv.few;have hgp:=geo_pos hg;have hm2:=hgp.2.1;clear hgp;obtain⟨va,vc,rfl⟩:=hv.shape;unfold madeVal geo at*;clear hb0 ha0 hv h5 h6 hg;go_enter Tryz.func6,Tryz.ntmps6
 go_wp2_with (first
  |(go_at_call 9;(with_reducible refine KU.out.mono ?_);rintro e w1 ⟨r,rfl,hr,hb1⟩;have HMU:=Lib.hid hr;have HB1:=Lib.hid (below_then HB0.out hb1);have HA1:=Lib.hid (HA0.out.below hb1 HA0.out.lt);clear hr hb1)
  |(go_at_call 10;(with_reducible refine(KK.out _).mono ?_);rintro e w2 ⟨rfl,hb2⟩;have HB2:=Lib.hid (below_then HB1.out hb2);have ha2:=HA1.out.below hb2 HA1.out.lt;have f4:=ha2.free 4;have e4:=ha2.cell 4;have hs2:=ha2.set 4 (.bool false);have c0:=hs2.cell 0;have c1:=hs2.cell 1;have c2:=hs2.cell 2;have c3:=hs2.cell 3;have c4:=hs2.cell 4;have c5:=hs2.cell 5;have hl2:=ha2.lt;have HA2:=Lib.hid ha2;have HS2:=Lib.hid hs2;clear ha2 hb2 hs2)
  |(go_at_call 11;(with_reducible refine(KB.out (w2.setCell ⟨w.heap.size,4,none⟩ (.bool false)) false).mono ?_);rintro e w3 ⟨T1,A1,R1,rfl,hl3,hbg3⟩;clear f4 e4 c0 c1 c2 c3 c4 c5;have ha3:=HS2.out.below hl3.bel HS2.out.lt;have f4:=ha3.free 4;have e4:=ha3.cell 4;have hs3:=ha3.set 4 (.bool true);have c0:=hs3.cell 0;have c1:=hs3.cell 1;have c2:=hs3.cell 2;have c3:=hs3.cell 3;have c4:=hs3.cell 4;have c5:=hs3.cell 5;have hl3':=ha3.lt;have HL3:=Lib.hid hl3;have HG3:=Lib.hid hbg3;clear ha3 hs3 hl3 hbg3)
  |(go_at_call 11;(with_reducible refine(KB.out (w3.setCell ⟨w.heap.size,4,none⟩ (.bool true)) true).mono ?_);rintro e w4 ⟨T2,A2,R2,rfl,hl4,hbg4⟩;clear f4 e4 c0 c1 c2 c3 c4 c5;have hst:=lz_start HB2.out HA2.out (Nat.le_refl _) HL3.out HG3.out hl4 hbg4 HR6.out;have HLZ:=Lib.hid hst.1;have HBX:=Lib.hid hst.2;clear hst hl4 hbg4))
 any_goals (first|(go_ret;exact⟨rfl,HB1.out⟩)|skip)
 have HFW:Hid (FewOps M C S l):=HMU.out (by first|assumption|(exact Bool.eq_false_iff.2 (by assumption))|(cases r<;>simp_all));have HFR:Hid (∀m:Nat,(fun j:Nat=>if (j:Int)=goneOf M down then (0:Int)else -1) m=0\/(fun j:Nat=>if (j:Int)=goneOf M down then (0:Int)else -1) m= -1):=fun m=>by
  by_cases h:(m:Int)=goneOf M down
  ·left;exact if_pos h
  ·right;exact if_neg h
 generalize (fun j:Nat=>if (j:Int)=goneOf M down then (0:Int)else -1)=fr0 at*;clear HL3 HG3 HA2 HS2 HB2;obtain⟨tb,htb⟩:∃tb,tb=w.heap.size:=⟨_,rfl⟩;rw[<-htb]at HBX ⊢;have HTB:=Lib.hid htb;clear htb;go_loopw [13] (fun q wr=>∃k:Nat,k≤l.length/\q=.int .i64 k/\∃T1 R1 V1 T2 R2 V2 D,LzAt w wr T1 A1 R1 V1 T2 A2 R2 V2 fr0 M C S ring (spentA k) (2*spentB l k) D D/\Bx wr T1 T2 tb #[.int .i64 M,.int .i64 C,.int .i64 S,.int .i64 ring,.bool true,.int .i64 more] 25) (fun q _=>l.length-(intOf q).toNat);case atStart=>exact⟨0,by omega,rfl,_,_,_,_,_,_,_,HLZ.out.mono (by unfold spentA;omega) (by unfold spentB;omega),HBX.out⟩
 case round=>
  clear HLZ HBX T1 R1 T2 R2;obtain⟨k,hk,rfl,T1,R1,V1,T2,R2,V2,D,hlz,hbx⟩:=hrel;have HZ0:=Lib.hid hlz;have HX0:=Lib.hid hbx;clear hlz hbx;by_cases hkl:k<l.length
  ·have K1:Hid (k+1≤l.length):=hkl
   have hsel:=HV.out;obtain⟨bb,off,rfl,hlt,hx⟩:=hsel.full (by omega);obtain⟨x0,x1,x2,x3,⟨u4,x4,q4⟩,⟨u5,x5,q5⟩,u6,x6,q6⟩:=hx k hkl;obtain⟨pa,pc,rfl⟩:=q4.shape;obtain⟨qa,qc,rfl⟩:=q5.shape;obtain⟨ka,kc,rfl⟩:=q6.shape;have hbw:=HZ0.out.two.one.bel;have y0:=(hbw.cell (p:=⟨bb,off+k*7,none⟩) hlt).trans x0;have y1:=(hbw.cell (p:=⟨bb,off+k*7+1,none⟩) hlt).trans x1;have y2:=(hbw.cell (p:=⟨bb,off+k*7+2,none⟩) hlt).trans x2;have y3:=(hbw.cell (p:=⟨bb,off+k*7+3,none⟩) hlt).trans x3;have y4:=(hbw.cell (p:=⟨bb,off+k*7+4,none⟩) hlt).trans x4;have y5:=(hbw.cell (p:=⟨bb,off+k*7+5,none⟩) hlt).trans x5;have y6:=(hbw.cell (p:=⟨bb,off+k*7+6,none⟩) hlt).trans x6;have hlt':bb<wr.heap.size:=Nat.lt_of_lt_of_le hlt hbw.size;have HQ4:=Lib.hid q4;have hin:=spent_in HFW.out hk;have hsb:=spentB_succ hkl;have hsa:=spentA_succ k;have hbb:spentB l (k+1)≤200000:=by
    have h1:=HFW.out.few;have h2:=HFW.out.sum;have h3:=opsSum_le l (k+1);unfold spentB;omega
   have HNX:Hid (∀W T1 R1 V1 T2 R2 V2 D a b,LzAt w W T1 A1 R1 V1 T2 A2 R2 V2 fr0 M C S ring a b D D->a≤spentA k+10000000->b≤2*spentB l k+2*(8*(l[k]'hkl).puts.length+4)->LzAt w W T1 A1 R1 V1 T2 A2 R2 V2 fr0 M C S ring (spentA (k+1)) (2*spentB l (k+1)) D D):=fun W T1 R1 V1 T2 R2 V2 D a b h h1 h2=>h.mono (by omega) (by omega)
   have HIN:Hid (∀a b,a≤spentA k+10000000->b≤2*spentB l k+2*(8*(l[k]'hkl).puts.length+4)->Within a b):=fun a b h1 h2=>⟨by have:=hin.a;omega,by omega⟩
   clear x0 x1 x2 x3 x4 x5 x6 q4 q5 q6 hx hsel hin hsb hsa hbb hbw;generalize hkd:(l[k]'hkl).kind=kd at*;generalize (l[k]'hkl).puts=us at*;generalize (l[k]'hkl).pats=ps at*;generalize (l[k]'hkl).keeps=ks at*;generalize (l[k]'hkl).m=mm at*;generalize (l[k]'hkl).n=nn at*;generalize (l[k]'hkl).down=dd at*;generalize 2*spentB l k=sb at*;generalize spentA k=sa at*;clear hkd;have hob:Below wr.heap.size wr (wr.alloc (.cells #[.int .i64 kd,.int .i64 mm,.int .i64 nn,.bool dd,.slice pa us.length pc,.slice qa ps.length qc,.slice ka ks.length kc] 41)):=(Below.refl _ _).alloc (Nat.le_refl _) _;have HZO:=Lib.hid (HZ0.out.below hob);have HXB:=Lib.hid (HX0.out.below hob);have HXO:=Lib.hid (HZ0.out.newBx #[.int .i64 kd,.int .i64 mm,.int .i64 nn,.bool dd,.slice pa us.length pc,.slice qa ps.length qc,.slice ka ks.length kc] 41);clear hob;by_cases hk1:kd=1
   ·as_aux_lemma=>
     subst hk1;have HI6:Hid (Within sa sb):=HIN.out _ _ (by omega) (by omega);have HI7:Hid (Within (sa+17) sb):=HIN.out _ _ (by omega) (by omega);by_cases hnn:0≤nn/\nn<((S*C*(M-1):Nat):Int)
     ·obtain⟨n,rfl⟩:=Int.eq_ofNat_of_zero_le hnn.1
      have hnB:n<S*C*(M-1):=by omega
      have HR1:=Lib.hid (lz_read HZO.out HI6.out n hnB);have HNB:=Lib.hid hnB;clear hnn hnB
      go_wp2_with (first
       |(go_at_call 14;(with_reducible refine HR1.out.mono ?_);rintro e w6 ⟨v6,R6,rfl,ho6,hz6,hs6⟩;obtain⟨x6,d6,rfl⟩:=ownsRow_shape ho6;have hxo:=HZO.out.keep hs6 HXO.out (by decide) (by decide) (by decide) (by decide);have hbm:=HZO.out.keep hs6 HXB.out (by decide) (by decide) (by decide) (by decide);have hal:Below w6.heap.size w6 (w6.alloc (.cells #[.int .i64 0,.int .u16 0] 45)):=(Below.refl _ _).alloc (Nat.le_refl _) _;have HZ6:=Lib.hid (hz6.below hal);have hxo6:=hxo.below hal;have HXO6:=Lib.hid hxo6;have HXB6:=Lib.hid (hbm.below hal);have HT6:=Lib.hid (hz6.newBx #[.int .i64 0,.int .u16 0] 45);have HO6:=Lib.hid (ownsRow_mod ho6 (Chg.ofBelow hal (fun _=>False)) (fun _ _ e=>e));have p2:=hxo6.at'.cell 2;have hxl:=hxo6.at'.lt;have HR2:=Lib.hid (lz_read HZ6.out.swap HI7.out n HNB.out);clear ho6 hz6 hs6 hxo hbm hal hxo6)
       |(go_at_call 14;(with_reducible refine HR2.out.mono ?_);rintro e w7 ⟨v7,R7,rfl,ho7,hz7,hs7⟩;obtain⟨x7,d7,rfl⟩:=ownsRow_shape ho7;have hbm:=HZ6.out.swap.keep hs7 HXB6.out.swap (by decide) (by decide) (by decide) (by decide);have hbt:=HZ6.out.swap.keep hs7 HT6.out.swap (by decide) (by decide) (by decide) (by decide);have ho67:=HZ6.out.swap.two.row HO6.out hs7.chg;have hal:Below w7.heap.size w7 (w7.alloc (.cells #[.int .i64 0,.int .u16 0] 45)):=(Below.refl _ _).alloc (Nat.le_refl _) _;have HZ7:=Lib.hid (hz7.swap.below hal);have HXB7:=Lib.hid (hbm.swap.below hal);have ht7:=(hbt.below hal).at';have hu7:At (w7.alloc (.cells #[.int .i64 0,.int .u16 0] 45)) w7.heap.size #[.int .i64 0,.int .u16 0] 45:=At.new _ _ _;have q0:=ht7.cell 0;have q1:=ht7.cell 1;have r0:=hu7.cell 0;have r1:=hu7.cell 1;have hql:=ht7.lt;have hrl:=hu7.lt;have HSG6:=Lib.hid (seg_of_row (ownsRow_mod ho67 (Chg.ofBelow hal (fun _=>False)) (fun _ _ e=>e)));have HSG7:=Lib.hid (seg_of_row (ownsRow_mod ho7 (Chg.ofBelow hal (fun _=>False)) (fun _ _ e=>e)));have HFE:Hid ((D n).length≤9223372036854775807):=(by show _≤_;have h1:=ho7.1;rw[ucells_length]at h1;omega);clear ho7 hz7 hs7 hbm hbt ho67 hal ht7 hu7 p2)
       |(go_at_call 15;(with_reducible refine(same_eq HFE.out HSG6.out HSG7.out).mono ?_);rintro e w8 ⟨rfl,hb8⟩;have HZ:=Lib.hid (HZ7.out.below hb8);have HX:=Lib.hid (HXB7.out.below hb8);clear hb8))
      exact⟨⟨k+1,K1.out,by go_num,_,_,_,_,_,_,_,HNX.out _ _ _ _ _ _ _ _ _ _ HZ.out (by omega) (by omega),HX.out⟩,by simp[intOf];omega⟩
     ·have HNN:Hid (nn<0\/((S*C*(M-1):Nat):Int)≤nn):=by show _\/_;omega
      have HR1:=Lib.hid (lz_read_no HZO.out nn HNN.out);clear hnn
      go_wp2_with (first
       |(go_at_call 14;(with_reducible refine HR1.out.mono ?_);rintro e w6 ⟨rfl,hb6⟩;have hba:=hb6.trans (((Below.refl w6.heap.size w6).alloc (Nat.le_refl _) (.cells #[.int .i64 0,.int .u16 3] 45)).mono hb6.size);have HZ6:=Lib.hid (HZO.out.below hba);have hxo6:=HXO.out.below hba;have HXO6:=Lib.hid hxo6;have HXB6:=Lib.hid (HXB.out.below hba);have HT6:Hid (At (w6.alloc (.cells #[.int .i64 0,.int .u16 3] 45)) w6.heap.size #[.int .i64 0,.int .u16 3] 45):=At.new _ _ _;have p2:=hxo6.at'.cell 2;have hxl:=hxo6.at'.lt;have HR2:=Lib.hid (lz_read_no HZ6.out.swap nn HNN.out);clear hb6 hba hxo6)
       |(go_at_call 14;(with_reducible refine HR2.out.mono ?_);rintro e w7 ⟨rfl,hb7⟩;have hba:=hb7.trans (((Below.refl w7.heap.size w7).alloc (Nat.le_refl _) (.cells #[.int .i64 0,.int .u16 3] 45)).mono hb7.size);have HZ7:=Lib.hid (HZ6.out.below hba);have HXB7:=Lib.hid (HXB6.out.below hba);have ht7:=HT6.out.below hba HT6.out.lt;have hu7:At (w7.alloc (.cells #[.int .i64 0,.int .u16 3] 45)) w7.heap.size #[.int .i64 0,.int .u16 3] 45:=At.new _ _ _;have q0:=ht7.cell 0;have q1:=ht7.cell 1;have r0:=hu7.cell 0;have r1:=hu7.cell 1;have hql:=ht7.lt;have hrl:=hu7.lt;clear hb7 hba ht7 hu7 p2)
       |(go_at_call 15;(with_reducible refine(same_eq (l:= []) (by simp) (Seg.nil _) (Seg.nil _)).mono ?_);rintro e w8 ⟨rfl,hb8⟩;have HZ:=Lib.hid (HZ7.out.below hb8);have HX:=Lib.hid (HXB7.out.below hb8);clear hb8))
      exact⟨⟨k+1,K1.out,by go_num,_,_,_,_,_,_,_,HNX.out _ _ _ _ _ _ _ _ _ _ HZ.out (by omega) (by omega),HX.out⟩,by simp[intOf];omega⟩
   by_cases hk2:kd=2
   ·as_aux_lemma=>
     subst hk2;have HI6:Hid (Within sa sb):=HIN.out _ _ (by omega) (by omega);have HI7:Hid (Within (sa+1000000) (sb+8*us.length+4)):=HIN.out _ _ (by omega) (by omega);have HDR:Hid (Below (wr.alloc (.cells #[.int .i64 2,.int .i64 mm,.int .i64 nn,.bool dd,.slice pa us.length pc,.slice qa ps.length qc,.slice ka ks.length kc] 41)).heap.size (wr.alloc (.cells #[.int .i64 2,.int .i64 mm,.int .i64 nn,.bool dd,.slice pa us.length pc,.slice qa ps.length qc,.slice ka ks.length kc] 41)) (wr.alloc (.cells #[.int .i64 2,.int .i64 mm,.int .i64 nn,.bool dd,.slice pa us.length pc,.slice qa ps.length qc,.slice ka ks.length kc] 41)).drew):=(Below.refl _ _).drew;have HZd:=Lib.hid (HZO.out.below HDR.out);have HXd:=Lib.hid (HXO.out.below HDR.out);have HBd:=Lib.hid (HXB.out.below HDR.out);have HSS:Hid (∀X,At X wr.heap.size #[.int .i64 2,.int .i64 mm,.int .i64 nn,.bool dd,.slice pa us.length pc,.slice qa ps.length qc,.slice ka ks.length kc] 41->X.cell? ⟨wr.heap.size,4,none⟩=some (.slice pa us.length pc)):=fun X h=>h.cell 4
     go_wp2;go_region_held3 (fun X=>X.cell? ⟨wr.heap.size,4,none⟩=some (.slice pa us.length pc))
      (first|with_reducible exact HSS.out _ HXd.out.at'|with_reducible exact HSS.out _ HXO.out.at'|with_reducible exact HSS.out _ HXO6.out.at'|with_reducible exact HSS.out _ HXO7.out.at')
      (first
       |(go_at_call 16;(with_reducible refine(lz_write HZO.out HI6.out _ us HQ4.out).mono ?_);rintro e w6 ⟨rfl,T6,R6,V6,hz6,hs6⟩;have HZ6:=Lib.hid hz6;have HXO6:=Lib.hid (HZO.out.keep hs6 HXO.out (by decide) (by decide) (by decide) (by decide));have HXB6:=Lib.hid (HZO.out.keep hs6 HXB.out (by decide) (by decide) (by decide) (by decide));clear hz6 hs6)
       |(go_at_call 16;(with_reducible refine(lz_write HZd.out HI6.out _ us HQ4.out).mono ?_);rintro e w6 ⟨rfl,T6,R6,V6,hz6,hs6⟩;have HZ6:=Lib.hid hz6;have HXO6:=Lib.hid (HZd.out.keep hs6 HXd.out (by decide) (by decide) (by decide) (by decide));have HXB6:=Lib.hid (HZd.out.keep hs6 HBd.out (by decide) (by decide) (by decide) (by decide));clear hz6 hs6)
       |(go_at_call 16;(with_reducible refine(lz_write HZ6.out.swap HI7.out _ us HQ4.out).mono ?_);rintro e w7 ⟨rfl,T7,R7,V7,hz7,hs7⟩;have HZ:=Lib.hid hz7.swap;have HXO7:=Lib.hid (HZ6.out.swap.keep hs7 HXO6.out.swap (by decide) (by decide) (by decide) (by decide));have HX:=Lib.hid (HZ6.out.swap.keep hs7 HXB6.out.swap (by decide) (by decide) (by decide) (by decide)).swap;clear hz7 hs7))
     go_wp2;exact⟨⟨k+1,K1.out,by go_num,_,_,_,_,_,_,_,HNX.out _ _ _ _ _ _ _ _ _ _ HZ.out (by omega) (by omega),HX.out⟩,by simp[intOf];omega⟩
   by_cases hk3:kd=3
   ·as_aux_lemma=>
     subst hk3;have HI6:Hid (Within sa sb):=HIN.out _ _ (by omega) (by omega);have HI7:Hid (Within (sa+1000) sb):=HIN.out _ _ (by omega) (by omega)
     go_wp2_with (first
      |(go_at_call 19;(with_reducible refine(lz_settle HZO.out HI6.out).mono ?_);rintro e w6 ⟨rfl,T6,R6,hz6,hs6⟩;have HZ6:=Lib.hid hz6;have HX6:=Lib.hid (HZO.out.keep hs6 HXB.out (by decide) (by decide) (by decide) (by decide));clear hz6 hs6)
      |(go_at_call 19;(with_reducible refine(lz_settle HZ6.out.swap HI7.out).mono ?_);rintro e w7 ⟨rfl,T7,R7,hz7,hs7⟩;have HZ:=Lib.hid hz7.swap;have HX:=Lib.hid (HZ6.out.swap.keep hs7 HX6.out.swap (by decide) (by decide) (by decide) (by decide)).swap;clear hz7 hs7))
     exact⟨⟨k+1,K1.out,by go_num,_,_,_,_,_,_,_,HNX.out _ _ _ _ _ _ _ _ _ _ HZ.out (by omega) (by omega),HX.out⟩,by simp[intOf];omega⟩
   by_cases hk8:kd=8
   ·as_aux_lemma=>
     subst hk8;have HI6:Hid (Within sa sb):=HIN.out _ _ (by omega) (by omega);have HI7:Hid (Within (sa+1000) (sb+1)):=HIN.out _ _ (by omega) (by omega)
     go_wp2_with (first
      |(go_at_call 21;(with_reducible refine(lz_empty HZO.out HI6.out).mono ?_);rintro e w6 ⟨rfl,T6,R6,hz6,hs6,-,-⟩;have HZ6:=Lib.hid hz6;have HX6:=Lib.hid (HZO.out.keep hs6 HXB.out (by decide) (by decide) (by decide) (by decide));clear hz6 hs6)
      |(go_at_call 21;(with_reducible refine(lz_empty HZ6.out.swap HI7.out).mono ?_);rintro e w7 ⟨rfl,T7,R7,hz7,hs7,-,-⟩;have HZ:=Lib.hid hz7.swap;have HX:=Lib.hid (HZ6.out.swap.keep hs7 HX6.out.swap (by decide) (by decide) (by decide) (by decide)).swap;clear hz7 hs7))
     exact⟨⟨k+1,K1.out,by go_num,_,_,_,_,_,_,_,HNX.out _ _ _ _ _ _ _ _ _ _ HZ.out (by omega) (by omega),HX.out⟩,by simp[intOf];omega⟩
   ·as_aux_lemma=>
     have hd1:(kd==1)=false:=beq_eq_false_iff_ne.2 hk1;have hd2:(kd==2)=false:=beq_eq_false_iff_ne.2 hk2;have hd3:(kd==3)=false:=beq_eq_false_iff_ne.2 hk3;have hd8:(kd==8)=false:=beq_eq_false_iff_ne.2 hk8;have HZ:=HZO;have HX:=HXB;go_wp2;exact⟨⟨k+1,K1.out,by go_num,_,_,_,_,_,_,_,HNX.out _ _ _ _ _ _ _ _ _ _ HZ.out (by omega) (by omega),HX.out⟩,by simp[intOf];omega⟩
  ·obtain rfl:k=l.length:=by omega
   have hsp:=spent_in HFW.out (Nat.le_refl l.length);have hbb:spentB l l.length≤200000:=by
    have h1:=HFW.out.few;have h2:=HFW.out.sum;have h3:=opsSum_le l l.length;unfold spentB;omega
   have HI6:Hid (Within (spentA l.length) (2*spentB l l.length)):=⟨by have:=hsp.a;omega,by omega⟩;have HI7:Hid (Within (spentA l.length+1000) (2*spentB l l.length+1)):=⟨by have:=hsp.a;omega,by omega⟩;clear hsp hbb
   go_wp2_with (first
    |(go_at_call 21;(with_reducible refine(lz_empty HZ0.out HI6.out).mono ?_);rintro e w4 ⟨rfl,T4,R4,hz4,hs4,hw4,hc4⟩;have HZ4:=Lib.hid hz4;have HX4:=Lib.hid (HZ0.out.keep hs4 HX0.out (by decide) (by decide) (by decide) (by decide));have HW4:=Lib.hid hw4;have HC4:=Lib.hid hc4;clear hz4 hs4 hw4 hc4)
    |(go_at_call 21;(with_reducible refine(lz_empty HZ4.out.swap HI7.out).mono ?_);rintro e w5 ⟨rfl,T5,R5,hz5,hs5,hw5,hc5⟩;have HZ5:=Lib.hid hz5.swap;have HX5:=Lib.hid (HZ4.out.swap.keep hs5 HX4.out.swap (by decide) (by decide) (by decide) (by decide)).at';have HW5:=Lib.hid hw5;have HC5:=Lib.hid hc5;clear hz5 hs5 hw5 hc5))
   have HIM:Hid (∀m,m<M->(R4.s.image (m:Int)=(0,none)/\R5.s.image (m:Int)=(0,none))\/∃L:List Sec,(∀s∈L,s.length=128)/\L.length≤4097/\R4.s.image (m:Int)=(0,some L)/\R5.s.image (m:Int)=(0,some L)):=fun m hm=>images_same HZ5.out.o1 HZ5.out.o2 HC4.out HC5.out HW4.out HW5.out HZ5.out.b1 HZ5.out.b2 HFR.out hm
   have HL1:=Lib.hid HZ5.out.one;have HL2:=Lib.hid HZ5.out.swap.one;clear HZ0 HX0 HZ4 HX4 HZ5;go_loopw [19] (fun q wr=>∃m:Nat,m≤M/\q=.int .i64 m/\Below w5.heap.size w5 wr) (fun q _=>M-(intOf q).toNat);case atStart=>exact⟨0,by omega,rfl,Below.refl _ _⟩
   case round=>
    obtain⟨m,hm,rfl,hbw⟩:=hrel;have HBW:=Lib.hid hbw;have hxm:=HX5.out.below hbw HX5.out.lt;have c0:=hxm.cell 0;have hxl:=hxm.lt;clear hxm hbw;by_cases hmM:m<M
    ·have M1:Hid (m+1≤M):=hmM
     rcases HIM.out m hmM with ⟨i1,i2⟩|⟨L,hls,hlf,i1,i2⟩
     ·have J1:=Lib.hid i1
      have J2:=Lib.hid i2;clear i1 i2
      go_wp2_with (first
       |(go_at_call 31;(with_reducible refine(l_image_none (HL1.out.below HBW.out) m J1.out).mono ?_);rintro e w6 ⟨rfl,hb6⟩;have HB6:Hid (Below w5.heap.size w5 w6):=HBW.out.trans (hb6.mono HBW.out.size);clear hb6 c0)
       |(go_at_call 31;(with_reducible refine(l_image_none (HL2.out.below HB6.out) m J2.out).mono ?_);rintro e w7 ⟨rfl,hb7⟩;have HB7:Hid (Below w5.heap.size w5 w7):=HB6.out.trans (hb7.mono HB6.out.size);clear hb7)
       |(go_at_call 15;(with_reducible refine(same_eq (l:= []) (by simp) (Seg.nil _) (Seg.nil _)).mono ?_);rintro e w8 ⟨rfl,hb8⟩;have HB8:Hid (Below w5.heap.size w5 w8):=HB7.out.trans (hb8.mono HB7.out.size);clear hb8))
      exact⟨⟨m+1,M1.out,by go_num,HB8.out⟩,by simp[intOf];omega⟩
     ·have J1:=Lib.hid i1
      have J2:=Lib.hid i2;have HFE:Hid (L.flatten.length≤9223372036854775807):=by show _≤_;rw[flatten_length hls];omega
      clear i1 i2 hls hlf
      go_wp2_with (first
       |(go_at_call 31;(with_reducible refine(l_image (HL1.out.below HBW.out) m J1.out).mono ?_);rintro e w6 ⟨v6,rfl,hb6,ho6⟩;obtain⟨x6,d6,rfl⟩:=ownsRow_shape ho6;have HO6:=Lib.hid ho6;have HB6:Hid (Below w5.heap.size w5 w6):=HBW.out.trans (hb6.mono HBW.out.size);clear hb6 c0 ho6)
       |(go_at_call 31;(with_reducible refine(l_image (HL2.out.below HB6.out) m J2.out).mono ?_);rintro e w7 ⟨v7,rfl,hb7,ho7⟩;obtain⟨x7,d7,rfl⟩:=ownsRow_shape ho7;have HSG6:=Lib.hid (seg_of_row (ownsRow_mod HO6.out (Chg.ofBelow hb7 (fun _=>False)) (fun _ _ e=>e)));have HSG7:=Lib.hid (seg_of_row ho7);have HB7:Hid (Below w5.heap.size w5 w7):=HB6.out.trans (hb7.mono HB6.out.size);clear hb7 ho7)
       |(go_at_call 15;(with_reducible refine(same_eq HFE.out HSG6.out HSG7.out).mono ?_);rintro e w8 ⟨rfl,hb8⟩;have HB8:Hid (Below w5.heap.size w5 w8):=HB7.out.trans (hb8.mono HB7.out.size);clear hb8))
      exact⟨⟨m+1,M1.out,by go_num,HB8.out⟩,by simp[intOf];omega⟩
    ·obtain rfl:m=M:=by omega
     go_wp2;go_ret;exact⟨rfl,HL1.out.bel.trans (HBW.out.mono HL1.out.bel.size)⟩
open Go.RowKit Go.ChangeShapes Go.WideShapes Go.ChangeAt Go.Deep
theorem rowsLazy_walk {H:Type} (w:World) (enc:TypeId×Value->H) (base:Nat) (v:Value) (d:DataW H) (ps:List MemPlace) (hok:Value.okWide Tryz.prog w .any base 25 v) (h:DataW.Trod enc Tryz.prog w 0 (fun _=>true) true 25 v d ps)
  (a:Int) (_:(Lit.int .i64 a).wf=true)
  (enc':TypeId×Value->H) (base':Nat) (v':Value) (d':DataW H) (ps':List MemPlace) (hok':Value.okWide Tryz.prog w .any base' 26 v') (h':DataW.Trod enc' Tryz.prog w 0 (fun _=>true) true 26 v' d' ps') (hw':∀n∈d'.weights Tryz.prog 26,n≤reachBytes):
  Calls Tryz.prog 6 #[v,.int .i64 a,v'] w fun e w'=>e=.returned (.bool true)/\Below w.heap.size w w':=by
 obtain⟨m,c,s,ring,lazy,more,rfl⟩:=made_of_trod hok h;obtain⟨l,hv⟩:=rops_of_trod hok' h' hw';cases hm:mayIs m c s ring
 ·exact RowsLazy_no m c s ring lazy more a v' l w hv hm
 ·obtain⟨M,C,S,r,rfl,rfl,rfl,rfl,hg,h5,h6⟩:=may_nat hm
  exact RowsLazy_go M C S r lazy more a v' l w hv hg h5 h6
end Go.Proofs.YtebmephdnjccjaaGreat
