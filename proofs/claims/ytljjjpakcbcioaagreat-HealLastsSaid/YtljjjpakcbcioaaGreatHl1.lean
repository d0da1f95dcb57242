/- Several texts in one: HlA, HlB, HlC, HlO, HlM, HlR, HlS. -/
import Derived.Test.YtljjjpakcbcioaaGreatMx
set_option linter.unusedVariables false
set_option maxRecDepth 100000
set_option maxHeartbeats 16000000
namespace Go.Proofs.YtljjjpakcbcioaaGreat
open Value renaming int→O,pointer→Zs
open IntKind renaming i64→Z
open Ending renaming returned→Zu
open Obj renaming cells→Zv
open Go.Proofs.Tryz renaming prog→Zw
open Go.RowKit
open Lib(hid)
variable {A:Adr} {s s':BaySt} {x:Dev} {l:List (List (Int×List UInt8))} {ps:List MemPlace} {X:List OP} {b base k m q:Nat} {T:Nat->Nat} {V:Nat->Nat->Sec} {lg:Option Nat} {R:RS} {H:Type} {v vw:Value} {W w:World}
theorem Zmo(h:RwIn w T A R lg vw X)(hg:geoIs R.M R.C R.S=true)(hn:R.s.n=R.M+1)(m s:Nat)(hm:m<R.M)(hs:s<R.S)(hd:∀k,k<R.C->R.dn m (s*R.C+k)=true):
  Calls Zw 53 #[Zs (some ⟨A.b,0,none⟩),geo R.M R.C R.S,Zs (some ⟨A.q,0,none⟩),O Z m,O Z s] w fun e w'=>e=Zu (.int .u16 0)/\Below w.heap.size w w':=by
 obtain⟨g1,g2,g3,g4,g5,g6⟩:=(Zam R.M R.C R.S).1 hg;have hk:Hid (∀W,Calls Zw 64 #[geo R.M R.C R.S] W fun e w'=>e=Zu (.int .u16 0)/\Below W.heap.size W w'):=fun W=>(Zb1 R.M R.C R.S W).mono fun e w' ⟨x1,x2⟩=>⟨by rw[x1];unfold geoCode;rw[Zf hg],x2⟩
 have hb:Below w.heap.size w (w.alloc (Zv #[O Z R.M,O Z R.C,O Z R.S] 23)):=(Zb _ _).alloc (Za _) _;have ha:At (w.alloc (Zv #[O Z R.M,O Z R.C,O Z R.S] 23)) w.heap.size #[O Z R.M,O Z R.C,O Z R.S] 23:=At.new _ _ _;have HS:Hid (∀W,Below w.heap.size w W->Calls Zw 33 #[Zs (some ⟨A.b,0,none⟩)] W fun e w'=>e=Zu (O Z (((R.M+1:Nat)):Int))/\w'=W):=fun W hW=>by
  have:=Zl1 (h.bay.below hW);rw[hn]at this;exact this
 have HDN:Hid (∀W k,Below w.heap.size w W->k<R.C->Calls Zw 106 #[Zs (some ⟨A.q,0,none⟩),O Z m,O Z ((s:Int)*(R.C:Int)+(k:Int))] W fun e w'=>e=Zu (.bool true)/\w'=W):=fun W k hW hk=>by
  have:=Zct m (s*R.C+k) W (h.rw.below hW h.rw.lt) (h.fr.below hW h.fr.lt) hm;rw[hd k hk,Int.natCast_add,Int.natCast_mul]at this;exact this
 have HA:=hid ha;have HL:=hid ha.lt;have HB:=hid hb;clear ha h hb hd hn hg;generalize R.M=M at*;generalize R.C=C at*;generalize R.S=S at*;have p1:s*C≤256*16:=Nat.mul_le_mul (by omega) (by omega);obtain⟨q,hq⟩:∃q:Nat,s*C=q:=⟨_,rfl⟩;have HQ:Hid ((s:Int)*(C:Int)=(q:Int)):=by show _=_;rw[<-hq,Int.natCast_mul]
 have d2:decide (M≤m)=false:=decide_eq_false (by omega);have d4:decide (S≤s)=false:=decide_eq_false (by omega);unfold geo at*;go_enter Tryz.func53,Tryz.ntmps53;go_wp2_with (go_at_call 64;(with_reducible refine(hk.out _).mono ?_);rintro e w1 ⟨rfl,hb1⟩;have hA1:=HA.out.below hb1 HL.out;have c0:=hA1.cell 0;have c1:=hA1.cell 1;have c2:=hA1.cell 2;have HA1:=hid hA1;clear hA1;have hbb:=Zac HB.out hb1;have HS1:Hid (∀k,Calls Zw 33 #[Zs (some ⟨A.b,0,none⟩)] (w1.drewN k) fun e w'=>e=Zu (O Z (((M+1:Nat)):Int))/\∃j,w'=w1.drewN j):=fun k=>(HS.out _ (below_drewN hbb k)).mono fun e w' ⟨x1,x2⟩=>⟨x1,k,x2⟩);go_quiet ((go_at_call 33;exact HS1.out _));have hbd:=below_drewN hbb nq;have HBD:=hid hbd;have hAd:=HA1.out.below (below_drewN (Zb w1.heap.size w1) nq) HA1.out.lt;have d1:=hAd.cell 1;have d0:=hAd.cell 0;have d2:=hAd.cell 2;clear hbd hAd hbb HS1;generalize w1.drewN nq=wd at*;go_wp2;go_loopw [12,46] (fun _ v wr=>∃k:Nat,k≤C/\v=O Z k/\wr=wd) (fun _ v _=>C-(intOf v).toNat);case atStart=>exact⟨0,by omega,rfl,by first|rfl|trivial⟩
 case round=>
  obtain⟨k,hk',rfl,hw⟩:=hrel;rw[hw];clear hw;by_cases hkC:k<C
  ·have K1:Hid (k+1≤C):=hkC
   have hd:=HDN.out wd k HBD.out hkC;rw[HQ.out]at hd;have HD:=hid hd;clear hd;have hqv:(s:Int)*(C:Int)=(q:Int):=HQ.out;have hq4:q≤4096:=by omega
   go_wp2_with (go_at_call 106;(with_reducible refine HD.out.mono ?_);rintro e w2 ⟨rfl,hw2⟩;subst w2);go_roundw;case rel=>exact⟨k+1,K1.out,by go_num,by first|rfl|trivial⟩
   case measure=>simp[intOf];have:=K1.out;omega
  ·go_wp2
   go_ret;exact⟨rfl,HBD.out⟩
open Go.RowKit
theorem RS.others_all(R:RS)(hw:R.wait= [])(m r:Nat):∀k,R.others m r k=if m<k then k-1 else k
 |0=>rfl
 |k+1=>by
  have ih:=R.others_all hw m r k;have h1:R.one k r=1:=by unfold RS.one;rw[hw];rfl
  show(if k=m then R.others m r k else R.others m r k+R.one k r)=_
  rw[ih,h1];by_cases h:k=m
  ·rw[Zf h,Ze (by omega),Zf (by omega)];omega
  ·rw[Ze h]
   by_cases h2:m<k
   ·rw[Zf h2,Zf (by omega)];omega
   ·rw[Ze h2,Ze (by omega)]
theorem RS.rc_down(R:RS)(hw:R.wait= []){r:Nat}(hm:m<R.M)(hd:R.dn m r=true):R.rc m r=R.M-1:=by
 unfold RS.rc;rw[Ze (by rw[hw];simp[waitAt]),Zf hd,R.others_all hw,Zf hm]
structure HealS (R:RS) (V:Nat->Nat->Sec) (m q k:Nat) (s':BaySt):Prop where
 n:s'.n=R.s.n
 fit:Fit s' (fun j=>R.G j\/j=m) R.szs
 c0:s'.cnt 0=R.s.cnt 0+((k*(R.M-1):Nat):Int)
 c1:s'.cnt 1=R.s.cnt 1+(k:Int)
 c2:s'.cnt 2=R.s.cnt 2
 small:∀x,R.s.small x->s'.small (x+k)
 pos:∀p,p≠m*3->s'.pos p=R.s.pos p
 sec:∀z,s'.sec m z=if q+1≤z/\z<q+1+k then V m (z-1)else R.s.sec m z
theorem HealS.start(V:Nat->Nat->Sec)(q:Nat)(h:Fit R.s (fun j=>R.G j\/j=m) R.szs):HealS R V m q 0 R.s:=
 ⟨rfl,h,by rw[Nat.zero_mul];simp,by simp,rfl,fun x h=>h,fun _ _=>rfl,fun z=>by rw[Ze (by omega)]⟩
theorem HealS.next(h:HealS R V m q k s')(hg:Good R V)(hm:m<R.M)(hr:q+k<R.S*R.C):Fit (s'.ticks 0 (R.M-1)) (fun j=>R.G j\/j=m) R.szs/\1+(q+k)<R.szs m/\m<(s'.ticks 0 (R.M-1)).n/\(V m (q+k)).length=128/\HealS R V m q (k+1) ((s'.ticks 0 (R.M-1)).put m (1+(q+k)) (V m (q+k))):=by
 have f0:=h.fit.ticks 0 (R.M-1);have hz:1+(q+k)<R.szs m:=by unfold RS.szs;rw[Zf hm];omega
 have hn:m<(s'.ticks 0 (R.M-1)).n:=by show m<s'.n;rw[h.n,hg.n];omega
 have hl:=hg.len m (q+k) hm hr;obtain⟨f1,f2⟩:=Zdd f0 m (1+(q+k)) (V m (q+k)) hn (.inr rfl) hz hl;refine⟨f0,hz,hn,hl,f2.n.trans h.n,f1,?_,?_,?_,fun x hx=> ?_,fun p hp=>(f2.pos p hp).trans (h.pos p hp),fun z=> ?_⟩
 ·rw[f2.c0,Zb7,h.c0,Nat.add_mul]
  omega
 ·rw[f2.c1,Zbo _ _ _ _ (by decide),h.c1]
  omega
 ·rw[f2.c2,Zbo _ _ _ _ (by decide),h.c2]
 ·have h1:(s'.ticks 0 (R.M-1)).small (x+k):=h.small x hx
  exact fun i hi y hy=>Zc (f2.small _ h1 i hi y hy) (by omega)
 ·rw[f2.sec]
  by_cases hq:z=1+(q+k)
  ·rw[Zf ⟨rfl,hq⟩,Zf (by omega),show z-1=q+k by omega]
  ·rw[Ze (fun e=>hq e.2)]
   have e:(s'.ticks 0 (R.M-1)).sec m z=s'.sec m z:=rfl;rw[e,h.sec];by_cases hz:q+1≤z/\z<q+1+k
   ·rw[Zf hz,Zf (by omega)]
   ·rw[Ze hz,Ze (by omega)]
structure Healed (R:RS) (V:Nat->Nat->Sec) (m q k:Nat) (s':BaySt):Prop where
 n:s'.n=R.s.n
 fit:Fit s' (fun j=>R.G j\/j=m) R.szs
 c0:s'.cnt 0=R.s.cnt 0+((k*(R.M-1):Nat):Int)
 c1:s'.cnt 1=R.s.cnt 1+(k:Int)
 c2:s'.cnt 2=R.s.cnt 2+1
 small:∀x,R.s.small x->s'.small (x+k)
 pos:∀p,p≠m*3->s'.pos p=R.s.pos p
 sec:∀z,z<1+R.S*R.C->s'.sec m z=if q+1≤z/\z<q+1+k then V m (z-1)else R.s.sec m z
 dry:s'.dry m
theorem HealS.done(h:HealS R V m q k s')(hg:Good R V)(hm:m<R.M):Healed R V m q k (s'.dried m):=by
 have hn:m<s'.n:=by rw[h.n,hg.n];omega
 obtain⟨f1,f2⟩:=Zbk h.fit m hn (.inr rfl);refine⟨f2.n.trans h.n,f1,f2.c0.trans h.c0,f2.c1.trans h.c1,?_,fun x hx=>f2.small _ (h.small x hx),fun p hp=>(f2.pos p hp).trans (h.pos p hp),fun z hz=> ?_,f2.dry⟩
 ·rw[f2.c2,h.c2]
 ·rw[f2.sec m z (fun _=>by unfold RS.szs;rw[Zf hm];exact hz)]
  exact h.sec z
theorem Good.aside(h:Good R V)(hn:s'.n=R.s.n)(hf:Fit s' R.G R.szs)(hs:∀m r,m<R.M->r<R.S*R.C->R.dn m r=false->s'.sec m (1+r)=R.s.sec m (1+r)):Good {R with s:=s'} V:=
 ⟨h.geo,hn.trans h.n,hf,h.len,h.even,h.lone,fun m r hm hr hw hd=>(hs m r hm hr hd).trans (h.sec m r hm hr hw hd),⟨h.jrn.z1,h.jrn.z2,h.jrn.tl,h.jrn.us,h.jrn.ep,h.jrn.nx,h.jrn.nx2⟩,h.inp,h.wv,h.few⟩
theorem HealS.good(h:HealS R V m q k s')(hg:Good R V)(hd:∀j,j<k->R.dn m (q+j)=true):Good {R with s:=s'} V:=by
 refine hg.aside h.n (h.fit.sub fun j hj=>.inl hj) fun i r hi hr hu=> ?_
 by_cases e:i=m
 ·subst e
  rw[h.sec,Ze];rintro ⟨h1,h2⟩;have:=hd (r-q) (by omega);rw[show q+(r-q)=r by omega,hu]at this;cases this
 ·rw[Zcn (h.pos (i*3) (by omega))]
theorem Healed.good(h:Healed R V m q k s')(hg:Good R V)(hd:∀j,j<k->R.dn m (q+j)=true):Good {R with s:=s'} V:=by
 refine hg.aside h.n (h.fit.sub fun j hj=>.inl hj) fun i r hi hr hu=> ?_
 by_cases e:i=m
 ·subst e
  rw[h.sec _ (by omega),Ze];rintro ⟨h1,h2⟩;have:=hd (r-q) (by omega);rw[show q+(r-q)=r by omega,hu]at this;cases this
 ·rw[Zcn (h.pos (i*3) (by omega))]
open Go.RowKit
structure LayAt (w0 W:World) (T:Nat->Nat) (A:Adr) (R:RS) (lg:Option Nat) (vw:Value) (X:List OP) (V:Nat->Nat->Sec) (m q k g:Nat):Prop where
 at':∃T' s',RwIn W T' A {R with s:=s'} lg vw X/\HealS R V m q k s'/\(∀p,p<w0.heap.size->T' p=T p)
 chg:Chg (fun p=>T p≠0) w0 W
 b0:At W g #[O Z R.M,O Z R.C,O Z R.S] 23
 b1:At W (g+1) #[O Z 0,.int .u16 0] 33
theorem Zu1(h:RwIn w T A R lg vw X)(hg:Good R V)(hw:R.wait= [])(m s:Nat)(hm:m<R.M)(hs:s<R.S)(hd:∀k,k<R.C->R.dn m (s*R.C+k)=true)(hf:Fit R.s (fun j=>R.G j\/j=m) R.szs)(hc0:R.s.cnt 0≤990000000000)(hc1:R.s.cnt 1≤990000000000)(hc2:R.s.cnt 2≤990000000000)(hsm:R.s.small 900000):
  Calls Zw 54 #[geo R.M R.C R.S,Zs (some ⟨A.q,0,none⟩),O Z m,O Z s,.func (.func 55) #[Zs (some ⟨A.b,0,none⟩)] #[],.func (.func 56) #[Zs (some ⟨A.b,0,none⟩)] #[]] w fun e w'=>e=Zu (.agg #[O Z 0,.int .u16 0])/\∃T' s',RwIn w' T' A {R with s:=s'} lg vw X/\Healed R V m (s*R.C) R.C s'/\(∀p,p<w.heap.size->T' p=T p)/\Chg (fun p=>T p≠0) w w':=by
 obtain⟨g1,g2,g3,g4,g5,g6⟩:=(Zam R.M R.C R.S).1 hg.geo;have p1:s*R.C+R.C≤R.S*R.C:=by
  have:=Nat.mul_le_mul_right R.C (show s+1≤R.S by omega);rw[Nat.add_mul,Nat.one_mul]at this;exact this
 have p2:R.S*R.C≤4096:=(Zbe hg.geo).2.2.2;have hVg:=Zae h.bay;have e1:(w.alloc (Zv #[O Z R.M,O Z R.C,O Z R.S] 23)).heap.size=w.heap.size+1:=Zaa _ _;have e2:((w.alloc (Zv #[O Z R.M,O Z R.C,O Z R.S] 23)).alloc (Zv #[O Z 0,.int .u16 0] 33)).heap.size=w.heap.size+2:=by rw[Zaa,e1]
 have hb2:Below w.heap.size w ((w.alloc (Zv #[O Z R.M,O Z R.C,O Z R.S] 23)).alloc (Zv #[O Z 0,.int .u16 0] 33)):=((Zb _ _).alloc (Za _) _).alloc (by rw[e1];omega) _;have hbx:=At.new (w.alloc (Zv #[O Z R.M,O Z R.C,O Z R.S] 23)) #[O Z 0,.int .u16 0] 33;rw[e1]at hbx;obtain⟨w2,hw2⟩:∃w2,w2=((w.alloc (Zv #[O Z R.M,O Z R.C,O Z R.S] 23)).alloc (Zv #[O Z 0,.int .u16 0] 33)):=⟨_,rfl⟩;have HI:Hid (LayAt w2 ((w.alloc (Zv #[O Z R.M,O Z R.C,O Z R.S] 23)).alloc (Zv #[O Z 0,.int .u16 0] 33)) T A R lg vw X V m (s*R.C) 0 w.heap.size):=by
  rw[hw2];exact⟨⟨T,R.s,h.below hb2,HealS.start V _ hf,fun _ _=>rfl⟩,Zl _ _,(At.new w _ _).alloc _,hbx⟩
 have HZ2:Hid (w2.heap.size=w.heap.size+2/\Below w.heap.size w w2):=by rw[hw2];exact⟨e2,hb2⟩
 have HSEC:Hid (∀k W,k<R.C->LayAt w2 W T A R lg vw X V m (s*R.C) k w.heap.size->Calls Zw 107 #[Zs (some ⟨A.q,0,none⟩),O Z m,O Z (((s*R.C:Nat):Int)+(k:Int))] W fun e w'=>∃xa xc,e=Zu (.tuple #[.slice xa 128 xc,.agg #[O Z 0,.int .u16 0]])/\At w' w.heap.size #[O Z R.M,O Z R.C,O Z R.S] 23/\(∀W2,Below w'.heap.size w' W2->Calls Zw 55 #[Zs (some ⟨A.b,0,none⟩),O Z m,O Z (1+(((s*R.C:Nat):Int)+(k:Int))),.slice xa 128 xc] W2 fun e w3=>e=Zu (.int .u16 0)/\LayAt w2 w3 T A R lg vw X V m (s*R.C) (k+1) w.heap.size)):=fun k W hk hl=>by
  obtain⟨⟨T',s',hr,hhs,htg⟩,hch,hb0,hb1⟩:=hl;have hgd:=hhs.good hg (fun j hj=>hd j (by omega));have hsm':s'.small 910000:=(hhs.small _ hsm).mono (by omega);have hMM:k*(R.M-1)≤16*16:=Nat.mul_le_mul (by omega) (by omega);have hcn:s'.cnt 0≤999998000000:=by rw[hhs.c0];omega
  have hsec:=Zid (R:={R with s:=s'}) hr hgd.sound m (s*R.C+k) hm (by show s*R.C+k<R.S*R.C;omega) hcn (hsm'.mono (by omega));have hrc:RS.rc {R with s:=s'} m (s*R.C+k)=R.M-1:=by
   rw[RS.rc_s];exact R.rc_down hw hm (hd k hk)
  rw[hrc,Int.natCast_add]at hsec;refine hsec.mono ?_;rintro e w' ⟨v,rfl,k1,k2,k3⟩;obtain⟨xa,xc,rfl⟩:=Zab k1;obtain⟨f0,fz,fn,fl,fnext⟩:=hhs.next hg hm (show s*R.C+k<R.S*R.C by omega);have hTb:T' w.heap.size=0:=(htg _ (by rw[HZ2.out.1];omega)).trans (hVg _ (Za _));have hTb1:T' (w.heap.size+1)=0:=(htg _ (by rw[HZ2.out.1];omega)).trans (hVg _ (by omega));have hb0':=hb0.mod k3 (fun e=>e hTb);have hb1':=hb1.mod k3 (fun e=>e hTb1);refine⟨xa,xc,rfl,hb0',fun W2 hW2=> ?_⟩;have hseg:Seg W2 (.slice xa 128 xc) (V m (s*R.C+k)):=by
   have ho:=Zaf k1 hW2 (Za _);exact Zao (by rw[fl];exact ho)
  have kk:=Zh4 (k2.below hW2).bay (m:Int) (1+(((s*R.C+k:Nat)):Int)) _ _ (by show(s'.ticks 0 (R.M-1)).cnt 1≤_;rw[Zbo _ _ _ _ (by decide),hhs.c1];omega) (hsm'.mono (by omega)) hseg (fun a n cc e=>by
   simp only [Zn]at e
   obtain⟨rfl,-,-⟩:=e
   exact Zae hr.bay _ (k1.lt a.block (by simp[Value.ownBlock])).1)
  have hwf:=Zb4 f0 m (1+(s*R.C+k)) (V m (s*R.C+k)) fn (.inr rfl) fz fl;rw[show((1+(s*R.C+k):Nat):Int)=1+(((s*R.C+k:Nat)):Int) by omega]at hwf;show Calls _ _ _ _ _
  have hwf':({R with s:=s'.ticks 0 (R.M-1)}:RS).s.write (m:Int) (1+(((s*R.C+k:Nat)):Int)) (V m (s*R.C+k))=(0,(s'.ticks 0 (R.M-1)).put m (1+(s*R.C+k)) (V m (s*R.C+k))):=hwf;rw[hwf',Int.natCast_add]at kk;refine kk.mono ?_;rintro e w3 ⟨rfl,T'',q1,q2,q3⟩;have hz2:=hch.size;have hz3:=k3.size;have hz4:=hW2.size;refine⟨rfl,⟨⟨T'',_,(k2.below hW2).turn q1 q2 q3,fnext,fun p hp=>(q2 p (by omega)).trans (htg p hp)⟩,?_,(hb0'.below hW2 hb0'.lt).mod q3 (fun e=>e hTb),(hb1'.below hW2 hb1'.lt).mod q3 (fun e=>e hTb1)⟩⟩;exact Zaj hch ((k3.trans (Zm hW2 _)).trans q3) (fun p hp e=>by rw[<-htg p hp];exact e)
 have HFL:Hid (∀W,LayAt w2 W T A R lg vw X V m (s*R.C) R.C w.heap.size->Calls Zw 56 #[Zs (some ⟨A.b,0,none⟩),O Z m] W fun e w'=>e=Zu (.int .u16 0)/\At w' (w.heap.size+1) #[O Z 0,.int .u16 0] 33/\∃T' s',RwIn w' T' A {R with s:=s'} lg vw X/\Healed R V m (s*R.C) R.C s'/\(∀p,p<w2.heap.size->T' p=T p)/\Chg (fun p=>T p≠0) w2 w'):=fun W hl=>by
  obtain⟨⟨T',s',hr,hhs,htg⟩,hch,hb0,hb1⟩:=hl;have hff:=Zco hhs.fit m (by rw[hhs.n,hg.n];omega) (.inr rfl);have k:=Zh8 hr.bay (m:Int) (by show s'.cnt 2≤_;rw[hhs.c2];omega) ((hhs.small _ hsm).mono (by omega));have hff':({R with s:=s'}:RS).s.flush (m:Int)=(0,s'.dried m):=hff;rw[hff']at k;refine k.mono ?_;rintro e w3 ⟨rfl,T'',q1,q2,q3⟩;have hz2:=hch.size;have hTb1:T' (w.heap.size+1)=0:=(htg _ (by rw[HZ2.out.1];omega)).trans (hVg _ (by omega));exact⟨rfl,hb1.mod q3 (fun e=>e hTb1),T'',_,hr.turn q1 q2 q3,hhs.done hg hm,fun p hp=>(q2 p (by omega)).trans (htg p hp),Zaj hch q3 (fun p hp e=>by rw[<-htg p hp];exact e)⟩
 have HV:=hid hVg;obtain⟨q,hq⟩:∃q:Nat,s*R.C=q:=⟨_,rfl⟩;have HQ:Hid ((s:Int)*(R.C:Int)=(q:Int)):=by show _=_;rw[<-hq,Int.natCast_mul]
 have hq4:q+R.C≤4096:=by omega
 rw[hq]at HI HSEC HFL ⊢;clear h hg hd hf hc0 hc1 hc2 hsm hw p1 hbx hb2 e1 e2 hVg hw2 hq hs;have hqv:(s:Int)*(R.C:Int)=(q:Int):=HQ.out;unfold geo;go_enter Tryz.func54,Tryz.ntmps54;have a0:=HI.out.b0.cell 0;have a1:=HI.out.b0.cell 1;have a2:=HI.out.b0.cell 2;go_wp2;clear a0 a1 a2;go_loopw [13,21] (fun _ v wr=>∃k:Nat,k≤R.C/\v=O Z k/\LayAt w2 wr T A R lg vw X V m q k w.heap.size) (fun _ v _=>R.C-(intOf v).toNat);case atStart=>exact⟨0,by omega,rfl,HI.out⟩
 case round=>
  obtain⟨k,hk,rfl,hl⟩:=hrel;have a0:=hl.b0.cell 0;have a1:=hl.b0.cell 1;have a2:=hl.b0.cell 2;have hlt:=hl.b0.lt;by_cases hkC:k<R.C
  ·have K1:Hid (k+1≤R.C):=hkC
   have HS:=hid (HSEC.out k wr hkC hl);clear hl
   go_wp2_with (first
    |(go_at_call 107;(with_reducible refine HS.out.mono ?_);rintro e w3 ⟨xa,xc,rfl,hb0,hwr⟩;clear a0 a1 a2 hlt;have HB0:=hid hb0;have HWR:=hid (hwr (w3.alloc (Zv #[O Z 0,.int .u16 0] 33)) ((Zb _ _).alloc (Za _) _));have hN:=At.new w3 #[O Z 0,.int .u16 0] 33;have n0:=hN.cell 0;have n1:=hN.cell 1;clear hb0 hwr hN)
    |(go_at_call 55;(with_reducible refine HWR.out.mono ?_);rintro e w4 ⟨rfl,hl4⟩;have HL4:=hid hl4;clear hl4 n0 n1))
   exact⟨⟨k+1,K1.out,by go_num,HL4.out⟩,by simp[intOf];have:=K1.out;omega⟩
  ·obtain rfl:k=R.C:=by omega
   have HF:=hid (HFL.out wr hl);clear hl;go_wp2_with (go_at_call 56;(with_reducible refine HF.out.mono ?_);rintro e w3 ⟨rfl,hb1,hend⟩;have HB1:=hid hb1;have HEN:=hid hend;have c0:=hb1.cell 0;have c1:=hb1.cell 1;have f0:=hb1.free 0;have f1:=hb1.free 1;clear a0 a1 a2 hlt hb1 hend);obtain⟨T',s',k1,k2,k3,k4⟩:=HEN.out;obtain⟨z1,z2⟩:=HZ2.out;have hst:Chg (fun p=>p=w.heap.size+1) w3 ((w3.setCell ⟨w.heap.size+1,0,none⟩ (O Z 0)).setCell ⟨w.heap.size+1,1,none⟩ (.int .u16 0)):=Zk (S:=fun p=>p=w.heap.size+1) (Zk (S:=fun p=>p=w.heap.size+1) (Zl _ _) ⟨w.heap.size+1,0,none⟩ (.inl rfl) _) ⟨w.heap.size+1,1,none⟩ (.inl rfl) _;have hF:=(HB1.out.set 0 (O Z 0)).set 1 (.int .u16 0);have r0:=hF.cell 0;have r1:=hF.cell 1;have hT1:T' (w.heap.size+1)=0:=(k3 _ (by omega)).trans (HV.out _ (by omega));have hc3:Chg (fun p=>T p≠0) w w3:=(Zm z2 _).trans k4;have HEND:Hid (Ending.returned (.agg #[O Z 0,.int .u16 0])=Ending.returned (.agg #[O Z 0,.int .u16 0])/\∃T' s',RwIn ((w3.setCell ⟨w.heap.size+1,0,none⟩ (O Z 0)).setCell ⟨w.heap.size+1,1,none⟩ (.int .u16 0)) T' A {R with s:=s'} lg vw X/\Healed R V m q R.C s'/\(∀p,p<w.heap.size->T' p=T p)/\Chg (fun p=>T p≠0) w ((w3.setCell ⟨w.heap.size+1,0,none⟩ (O Z 0)).setCell ⟨w.heap.size+1,1,none⟩ (.int .u16 0))):=by
    refine⟨rfl,T',s',?_,k2,fun p hp=>k3 p (by omega),Zaj hc3 hst (fun p hp e=>by omega)⟩;exact k1.box HB1.out hT1 hst
   clear hst hF HB1 HEN k1 k2 k3 k4 c0 c1 f0 f1;(try simp only [Exit.inBlock,Exit.then]);refine bodyPost_ret (v:=.agg #[O Z 0,.int .u16 0]) ?_ rfl HEND.out;rw[Zai rfl];go_simp;try rfl
theorem Ztc(h:RwIn w T A R lg vw X)(hg:Good R V)(hw:R.wait= [])(m s:Nat)(hm:m<R.M)(hs:s<R.S)(hd:∀k,k<R.C->R.dn m (s*R.C+k)=true)(hf:Fit R.s (fun j=>R.G j\/j=m) R.szs)(hc0:R.s.cnt 0≤990000000000)(hc1:R.s.cnt 1≤990000000000)(hc2:R.s.cnt 2≤990000000000)(hsm:R.s.small 900000):
  Calls Zw 15 #[Zs (some ⟨A.b,0,none⟩),geo R.M R.C R.S,Zs (some ⟨A.q,0,none⟩),O Z m,O Z s] w fun e w'=>e=Zu (.agg #[O Z 0,.int .u16 0])/\∃T' s',RwIn w' T' A {R with s:=s'} lg vw X/\Healed R V m (s*R.C) R.C s'/\(∀p,p<w.heap.size->T' p=T p)/\Chg (fun p=>T p≠0) w w':=by
 have hVg:=Zae h.bay;have e1:(w.alloc (Zv #[O Z R.M,O Z R.C,O Z R.S] 23)).heap.size=w.heap.size+1:=Zaa _ _;have hb2:Below w.heap.size w ((w.alloc (Zv #[O Z R.M,O Z R.C,O Z R.S] 23)).alloc (Zv #[O Z 0,.int .u16 0] 33)):=((Zb _ _).alloc (Za _) _).alloc (by rw[e1];omega) _;have hbx:=At.new (w.alloc (Zv #[O Z R.M,O Z R.C,O Z R.S] 23)) #[O Z 0,.int .u16 0] 33;rw[e1]at hbx;have hb0:At ((w.alloc (Zv #[O Z R.M,O Z R.C,O Z R.S] 23)).alloc (Zv #[O Z 0,.int .u16 0] 33)) w.heap.size #[O Z R.M,O Z R.C,O Z R.S] 23:=(At.new w _ _).alloc _;have HMY:=hid (Zmo (h.below hb2) hg.geo hg.n m s hm hs hd);have HLY:Hid (∀W,Below w.heap.size w W->Calls Zw 54 #[.agg #[O Z R.M,O Z R.C,O Z R.S],Zs (some ⟨A.q,0,none⟩),O Z m,O Z s,.func (.func 55) #[Zs (some ⟨A.b,0,none⟩)] #[],.func (.func 56) #[Zs (some ⟨A.b,0,none⟩)] #[]] W fun e w'=>e=Zu (.agg #[O Z 0,.int .u16 0])/\∃T' s',RwIn w' T' A {R with s:=s'} lg vw X/\Healed R V m (s*R.C) R.C s'/\(∀p,p<W.heap.size->T' p=T p)/\Chg (fun p=>T p≠0) W w'):=fun W hW=>Zu1 (h.below hW) hg hw m s hm hs hd hf hc0 hc1 hc2 hsm
 have HB2:=hid hb2;have HBX:=hid hbx;have HB0:=hid hb0;have HV:=hid hVg;clear h hg hd hf hc0 hc1 hc2 hsm hw hb2 hbx hb0 hVg hm hs;unfold geo at*;go_enter Tryz.func15,Tryz.ntmps15;have a0:=HB0.out.cell 0;have a1:=HB0.out.cell 1;have a2:=HB0.out.cell 2
 go_wp2_with (first
  |(go_at_call 53;(with_reducible refine HMY.out.mono ?_);rintro e w3 ⟨rfl,hb3⟩;clear a0 a1 a2;have hx0:=HB0.out.below hb3 HB0.out.lt;have hx1:=HBX.out.below hb3 HBX.out.lt;have a0:=hx0.cell 0;have a1:=hx0.cell 1;have a2:=hx0.cell 2;have HX1:=hid hx1;have HB3:Hid (Below w.heap.size w w3):=(HB2.out.trans (hb3.mono HB2.out.size));clear hb3 hx0 hx1)
  |(go_at_call 54;(with_reducible refine(HLY.out w3 HB3.out).mono ?_);rintro e w4 ⟨rfl,T',s',k1,k2,k3,k4⟩;clear a0 a1 a2;have hx1:=HX1.out.mod k4 (fun e=>e (HV.out _ (by omega)));have c0:=hx1.cell 0;have c1:=hx1.cell 1;have f0:=hx1.free 0;have f1:=hx1.free 1;have HX4:=hid hx1;have HK1:=hid k1;have HK2:=hid k2;have HK3:=hid k3;have HK4:=hid k4;clear k1 k2 k3 k4 hx1))
 have hz3:=HX1.out.lt;have hst:Chg (fun p=>p=w.heap.size+1) w4 ((w4.setCell ⟨w.heap.size+1,0,none⟩ (O Z 0)).setCell ⟨w.heap.size+1,1,none⟩ (.int .u16 0)):=Zk (S:=fun p=>p=w.heap.size+1) (Zk (S:=fun p=>p=w.heap.size+1) (Zl _ _) ⟨w.heap.size+1,0,none⟩ (.inl rfl) _) ⟨w.heap.size+1,1,none⟩ (.inl rfl) _;have hF:=(HX4.out.set 0 (O Z 0)).set 1 (.int .u16 0);have r0:=hF.cell 0;have r1:=hF.cell 1;have hT1:T' (w.heap.size+1)=0:=(HK3.out _ hz3).trans (HV.out _ (by omega));have hc3:Chg (fun p=>T p≠0) w w4:=(Zm HB3.out _).trans HK4.out;have hzw:=HB3.out.size;have HEND:Hid (Ending.returned (.agg #[O Z 0,.int .u16 0])=Ending.returned (.agg #[O Z 0,.int .u16 0])/\∃T' s',RwIn ((w4.setCell ⟨w.heap.size+1,0,none⟩ (O Z 0)).setCell ⟨w.heap.size+1,1,none⟩ (.int .u16 0)) T' A {R with s:=s'} lg vw X/\Healed R V m (s*R.C) R.C s'/\(∀p,p<w.heap.size->T' p=T p)/\Chg (fun p=>T p≠0) w ((w4.setCell ⟨w.heap.size+1,0,none⟩ (O Z 0)).setCell ⟨w.heap.size+1,1,none⟩ (.int .u16 0))):=
  ⟨rfl,T',s',HK1.out.box HX4.out hT1 hst,HK2.out,fun p hp=>HK3.out p (by omega),Zaj hc3 hst (fun p hp e=>by omega)⟩
 clear hst hF HX4 HX1 HK1 HK2 HK3 HK4 c0 c1 f0 f1 hc3;(try simp only [Exit.inBlock,Exit.then]);refine bodyPost_ret (v:=.agg #[O Z 0,.int .u16 0]) ?_ rfl HEND.out;rw[Zai rfl];go_simp;try rfl
open Go.RowKit Go.ChangeShapes Go.WideShapes Go.ChangeAt Go.Deep
def HOpSeg(w:World)(v:Value)(l:List (List (Int×List UInt8))):Prop:=
 ∃a c,v=.slice a l.length c/\l.length≤140737488355328/\(l= []\/∃b o,a=some ⟨b,o,none⟩/\b<w.heap.size/\∀j (h:j<l.length),∃u,w.cell? ⟨b,o+j*5+4,none⟩=some u/\PutSeg w u l[j])
theorem HOpSeg.below{w':World}(h:HOpSeg w v l)(hb:Below w.heap.size w w'):HOpSeg w' v l:=by
 obtain⟨a,c,h1,h2,h3⟩:=h;refine⟨a,c,h1,h2,?_⟩;rcases h3 with e|⟨b,o,e1,e2,e3⟩
 ·exact .inl e
 ·refine .inr ⟨b,o,e1,Zd e2 hb.size,fun j hj=> ?_⟩
  obtain⟨u,k1,k2⟩:=e3 j hj;exact⟨u,(hb.cell (p:=⟨b,o+j*5+4,none⟩) e2).trans k1,k2.below hb⟩
theorem HOpSeg.shape(h:HOpSeg w v l):∃a c,v=.slice a l.length c:=by
 obtain⟨a,c,h1,-⟩:=h;exact⟨a,c,h1⟩
theorem HOpSeg.few(h:HOpSeg w v l):l.length≤140737488355328:=by
 obtain⟨a,c,-,h2,-⟩:=h;exact h2
theorem HOpSeg.full{a:Option Addr}{n c:Nat}(h:HOpSeg w (.slice a n c) l)(hl:0<l.length):∃b o,a=some ⟨b,o,none⟩/\b<w.heap.size/\∀j (h:j<l.length),∃u,w.cell? ⟨b,o+j*5+4,none⟩=some u/\PutSeg w u l[j]:=by
 obtain⟨a',c',h1,h2,h3⟩:=h;simp only [Zn]at h1;obtain⟨rfl,rfl,rfl⟩:=h1;rcases h3 with e|e
 ·rw[e]at hl
  exact absurd hl (by simp)
 ·exact e
theorem Zkd{enc:TypeId×Value->H}{P:Program}{T E:Nat}{d:DataW H}{f0 f1 f2 f3 f4:Field}
  (hT:P.underlying T=some (.slice E)) (hE:P.underlying E=some (.struct #[f0,f1,f2,f3,f4])) (ce:P.cellsOf E=5) (be:0<P.bytesOf E) (o4:f4.offset=4) (c4:P.cellsOf f4.type=1)
  (h4:∀fuel v x,DataW.trod enc P W 0 (fun _=>true) true fuel f4.type [v]=some x->(∀n∈x.1.weights P f4.type,n≤reachBytes)->∃us,PutSeg W v us)
  (hv:Value.okWide P W .any base T v) (h:DataW.Trod enc P W 0 (fun _=>true) true T v d ps) (hw:∀n∈d.weights P T,n≤reachBytes):∃l,HOpSeg W v l:=by
 obtain⟨a,len,cap,rfl⟩:=Go.WideShapes.okWide_slice hT hv;obtain⟨fuel,hf⟩:=h;rcases Go.Deep.open_slice hT hf with ⟨hcs,_⟩|⟨x,l,c,m,n,D,Pl,hcs,_,hl,hm,hmm,hd,hx⟩
 ·simp[Value.cells]at hcs
  obtain⟨rfl,rfl,rfl⟩:=hcs;exact⟨[],none,0,rfl,by simp,.inl rfl⟩
 ·simp[Value.cells]at hcs
  obtain⟨rfl,rfl,rfl⟩:=hcs;simp only [if_true]at hmm;subst hmm;simp only [Prod.mk.injEq]at hd;have hlenb:len≤140737488351232:=by
   have hmem:(((List.range len).map D).length+((List.range (m-len)).map fun j=>D (len+j)).length)*P.bytesOf E≤reachBytes:=by
    apply hw;rw[hd.1];simp only [DataW.weights,hT];exact List.mem_cons_self
   simp only [Zp,List.length_range,reachBytes]at hmem;have:=Nat.le_mul_of_pos_right (len+(m-len)) be;omega
  rw[ce]at hx;have each:∀i,i<len->∃z:List (Int×List UInt8),∃u u0,W.cell? (x.add (i*5+4))=some u/\PutSeg W u z/\W.cell? (x.add (i*5))=some u0:=by
   intro i hi;obtain⟨cs',h1,h2⟩:=hx i (by omega);obtain⟨_,hlen,hcell⟩:=World.cells?_some h1;obtain⟨xs,k,hk,hxy,_,hxl,hfld⟩:=DataW.trod_struct hE h2;match xs,hxl,cs',hlen with
   | [y0,y1,y2,y3,y4],_,[v0,v1,v2,v3,v4],_=>
    have g4:=hfld 4 f4 rfl;simp[o4,c4]at g4;have e4:=hcell 4 (by omega);have e0:=hcell 0 (by omega);rw[add_add]at e4 e0;have hDi:D i=.agg [y0.1,y1.1,y2.1,y3.1,y4.1]:=by
     have:=congrArg Prod.fst hxy;simpa using this
    obtain⟨us,r4⟩:=h4 _ _ _ g4 (fun n hn=>hw n (by
     rw[hd.1]
     simp only [DataW.weights,hT]
     refine List.mem_cons_of_mem _ (List.mem_append_left _ (Zcq (i:=i) (d:=D i) (by simp[hi]) _ ?_))
     rw[hDi]
     simp only [DataW.weights,hE,DataW.weightsEach,List.map_cons,List.map_nil,List.append_nil]
     exact List.mem_append_right _ (List.mem_append_right _ (List.mem_append_right _ (List.mem_append_right _ hn)))))
    exact⟨us,v4,v0,by simpa using e4,r4,by simpa using e0⟩
  haveI:Inhabited (List (Int×List UInt8)):=⟨[]⟩;obtain⟨F,hF⟩:=choose_lt (α:=List (Int×List UInt8)) each;have hlen:((List.range len).map F).length=len:=by simp
  refine⟨(List.range len).map F,some x,m,by rw[hlen],by rw[hlen];omega,?_⟩;rcases Nat.eq_zero_or_pos len with h0|h0
  ·left;rw[h0];rfl
  ·right
   obtain⟨b,off,spot⟩:=x;have hspot:spot=none:=by
    obtain⟨_,_,_,_,h0'⟩:=hF 0 (by omega);simpa [Addr.add]using World.cell?_spot h0'
   subst hspot;refine⟨b,off,rfl,?_,fun j hj=> ?_⟩
   ·obtain⟨u,_,h1,_⟩:=hF 0 (by omega)
    rw[Go.WideShapes.add_plain]at h1;exact block_lt_of_cell h1
   ·rw[hlen]at hj
    obtain⟨u,_,h1,h2,_⟩:=hF j hj;rw[Go.WideShapes.add_plain]at h1;rw[List.getElem_map,List.getElem_range];exact⟨u,by rw[show off+j*5+4=off+(j*5+4) by omega];exact h1,h2⟩
theorem Zly{enc:TypeId×Value->H}{d:DataW H}
  (hv:Value.okWide Zw W .any base 24 v) (h:DataW.Trod enc Zw W 0 (fun _=>true) true 24 v d ps) (hw:∀n∈d.weights Zw 24,n≤reachBytes):∃l,HOpSeg W v l:=
 Zkd Tryz.underlying24 Tryz.underlying43 (by kernel_rfl) (by decide+kernel) rfl (by kernel_rfl)
  (fun fuel v x hf hw=>Zi0 Tryz.underlying41 Tryz.underlying53 (by kernel_rfl) (by decide+kernel) rfl rfl (by kernel_rfl) (by kernel_rfl) Tryz.underlying3 Tryz.underlying51 Tryz.underlying5 (by kernel_rfl) (by kernel_rfl) hf hw)
  hv h hw
open Go.RowKit
structure FewHeal (m c s:Int) (l:List (List (Int×List UInt8))):Prop where
 few:l.length≤5000
 sum:batsSum l≤20000
 blocks:geoIs m c s=true->s*c*(m-1)*(l.length+1)≤1048576
theorem Zre{m c s:Int}(h:FewHeal m c s l)(hk:k≤l.length):Within (swA k+200000000000) (swB l k+100000):=by
 have h1:=Zp9 l k;have h2:=h.few;have h3:=h.sum;exact⟨by unfold swA;omega,by unfold swB;omega⟩
theorem Zol(m c s:Int)(v:Value)(l:List (List (Int×List UInt8)))(w:World)(hv:HOpSeg w v l):
  Calls Zw 8 #[geo m c s,v] w fun e w'=>∃r:Bool,e=Zu (.bool r)/\(r=false->FewHeal m c s l)/\Below w.heap.size w w':=by
 have hk:=hid (fun W=>Zfg m c s W);have hb0:Below w.heap.size w (w.alloc (Zv #[O Z m,O Z c,O Z s] 23)):=(Zb _ _).alloc (Za _) _;have ha0:At (w.alloc (Zv #[O Z m,O Z c,O Z s] 23)) w.heap.size #[O Z m,O Z c,O Z s] 23:=At.new _ _ _;have hv0:=hv.below hb0;obtain⟨va,vc,rfl⟩:=hv.shape;have hlen:=hv.few;have HV:=hid hv0;have HB0:=hid hb0;have HA0:=hid ha0;have hlt0:=ha0.lt;have HBL:Hid (geoIs m c s=true->∀W,Calls Zw 39 #[geo m c s] W fun e w'=>e=Zu (O Z (s*c*(m-1)))/\Below W.heap.size W w'):=fun hg W=>by
  obtain⟨g1,g2,g3,g4,g5,g6⟩:=(Zam m c s).1 hg;obtain⟨M,rfl⟩:=Int.eq_ofNat_of_zero_le (show 0≤m by omega);obtain⟨C,rfl⟩:=Int.eq_ofNat_of_zero_le (show 0≤c by omega);obtain⟨S,rfl⟩:=Int.eq_ofNat_of_zero_le (show 0≤s by omega);exact Zpb M C S W hg
 have HGS:Hid (geoIs m c s=true->0≤s*c*(m-1)/\s*c*(m-1)≤61440):=fun hg=>Zq5 hg
 clear hv hv0 hb0 ha0;unfold geoCode geo at*;go_enter Tryz.func8,Tryz.ntmps8;by_cases h5:5000<l.length
 ·go_wp2
  go_ret;exact⟨true,rfl,fun e=>(by cases e),HB0.out⟩
 go_wp2;go_loopw [5,6] (fun n i wr=>∃k N:Nat,k≤l.length/\i=O Z k/\n=O Z N/\batsSum (l.take k)≤N/\N≤1152921504606846976/\Below (w.alloc (Zv #[O Z m,O Z c,O Z s] 23)).heap.size (w.alloc (Zv #[O Z m,O Z c,O Z s] 23)) wr) (fun _ i _=>l.length-(intOf i).toNat);case atStart=>exact⟨0,0,by omega,rfl,rfl,by simp[batsSum],by omega,Zb _ _⟩
 case round=>
  obtain⟨k,N,hk',rfl,rfl,hsum,hN,hbel⟩:=hrel;have HBE:=hid hbel;have HSU:=hid hsum;clear hsum;by_cases hgo:k<l.length/\N≤20000
  ·as_aux_lemma=>
    obtain⟨hkl,hN3⟩:=hgo;have K1:Hid (k+1≤l.length):=hkl;have HS1:=hid (Zge l k hkl);obtain⟨b,off,rfl,hlt,hx⟩:=(HV.out.below hbel).full (by omega);obtain⟨u,x4,q4⟩:=hx k hkl;obtain⟨pa,pc,rfl⟩:=q4.shape;have hU:=q4.few';have HQ4:=hid q4;clear q4 hx hbel;generalize (l[k]'hkl)=us at*;obtain⟨N1,hN1⟩:∃N1:Nat,(N:Int)+(1+(us.length:Int))=N1:=⟨N+(1+us.length),by omega⟩;have HN1:Hid (N1=N+(1+us.length)):=by show _=_;omega
    have hN1b:N1≤1000000000000000:=by omega
    go_wp2;(try rw[hN1]);clear hN1;obtain⟨wo,rfl⟩:∃wo:World,wo=wr:=⟨_,rfl⟩;go_loopw [5,7] (fun n j wr2=>∃(j2 N2:Nat),j2≤us.length/\j=O Z j2/\n=O Z N2/\N1≤N2/\N2≤1152921504606846976/\wr2=wo) (fun _ j _=>us.length-(intOf j).toNat);case atStart=>exact⟨0,N1,by omega,rfl,rfl,by omega,by omega,rfl⟩
    case round=>
     obtain⟨j2,N2,hj2,rfl,rfl,hlo2,hhi2,hw2⟩:=hrel;rw[hw2];clear hw2;by_cases hg2:j2<us.length/\N2≤20000
     ·as_aux_lemma=>
       obtain⟨hjl,hn2⟩:=hg2;have K2:Hid (j2+1≤us.length):=hjl;obtain⟨eb,eo,rfl,helt,hex⟩:=putsFull HQ4.out (by omega);obtain⟨_,ex,hec,hes⟩:=hex j2 hjl;obtain⟨ea,ec,rfl⟩:=hes.shape;have hel:=putsLen HQ4.out j2 hjl;generalize (us[j2]'hjl).2.length=B at*;have hdv:((B/64:Nat):Int)=(B:Int)/64:=by omega
       go_wp2;exact⟨⟨j2+1,N2+B/64,K2.out,by go_num,by rw[Int.natCast_add,hdv],by omega,by omega,(by first|rfl|trivial)⟩,by simp[intOf];omega⟩
     ·have hway2:(j2<us.length/\decide ((N2:Int)≤20000)=false/\20000<N2)\/((us.length:Int)≤(j2:Int)):=by
       by_cases h:j2<us.length
       ·exact .inl ⟨h,decide_eq_false (by omega),by omega⟩
       ·exact .inr (by omega)
      rcases hway2 with ⟨hl2,hd2,hb2⟩|hl2
      all_goals
       go_wp2
       exact⟨⟨k+1,N2,K1.out,by go_num,rfl,by have:=HS1.out;have:=HSU.out;have:=HN1.out;omega,by omega,HBE.out⟩,by simp[intOf];omega⟩
  ·by_cases hbig:20000<N
   ·have hbd:decide ((20000:Int)<(N:Int))=true:=decide_eq_true (by omega)
    have hbd2:decide ((N:Int)≤20000)=false:=decide_eq_false (by omega);clear hgo;by_cases hkl:k<l.length
    ·as_aux_lemma=>
      go_wp2;go_ret;exact⟨true,rfl,fun e=>(by cases e),Zac HB0.out HBE.out⟩
    ·have hkl':(l.length:Int)≤(k:Int):=by omega
     as_aux_lemma=>
      go_wp2;go_ret;exact⟨true,rfl,fun e=>(by cases e),Zac HB0.out HBE.out⟩
   ·obtain rfl:k=l.length:=by omega
    clear hgo;have HN3:Hid (batsSum l≤20000):=by have:=HSU.out;rw[List.take_length]at this;show _≤_;omega
    have hbd:decide ((20000:Int)<(N:Int))=false:=decide_eq_false (by omega);have ha:=HA0.out.below hbel hlt0;have c0:=ha.cell 0;have c1:=ha.cell 1;have c2:=ha.cell 2;have hltr:=ha.lt;have HAR:=hid ha;clear ha;by_cases hg:geoIs m c s=true
    ·as_aux_lemma=>
      have HK0:Hid (∀W,Calls Zw 16 #[.agg #[O Z m,O Z c,O Z s]] W fun e w'=>e=Zu (O Z 0)/\Below W.heap.size W w'):=fun W=>by
       have:=hk.out W;rw[Zf hg]at this;exact this
      have HBG:Hid (∀W,Calls Zw 39 #[.agg #[O Z m,O Z c,O Z s]] W fun e w'=>e=Zu (O Z (s*c*(m-1)))/\Below W.heap.size W w'):=HBL.out hg;obtain⟨z1,z2⟩:=HGS.out hg;have HFW:Hid (s*c*(m-1)*((l.length:Int)+1)≤1048576->FewHeal m c s l):=fun e=>⟨by omega,HN3.out,fun _=>e⟩
      clear hk HBL HGS;generalize s*c*(m-1)=z at*;have p1:0≤z*((l.length:Int)+1):=Int.mul_nonneg z1 (by omega);have p2:z*((l.length:Int)+1)≤61440*5001:=Int.mul_le_mul z2 (by omega) (by omega) (by omega);by_cases hp:1048576<z*((l.length:Int)+1)
      ·go_wp2_with (first
        |(go_at_call 16;(with_reducible refine(HK0.out _).mono ?_);rintro e w1 ⟨rfl,hb1⟩;clear c0 c1 c2;have ha1:=HAR.out.below hb1 hltr;have c0:=ha1.cell 0;have c1:=ha1.cell 1;have c2:=ha1.cell 2;have hlt1:=ha1.lt;have HB1:=hid (Zac (Zac HB0.out HBE.out) hb1);clear ha1 hb1)
        |(go_at_call 39;(with_reducible refine(HBG.out _).mono ?_);rintro e w2 ⟨rfl,hb2⟩;have HB2:=hid (Zac HB1.out hb2);clear hb2))
       go_ret
       exact⟨true,rfl,fun e=>(by cases e),HB2.out⟩
      ·go_wp2_with (first
        |(go_at_call 16;(with_reducible refine(HK0.out _).mono ?_);rintro e w1 ⟨rfl,hb1⟩;clear c0 c1 c2;have ha1:=HAR.out.below hb1 hltr;have c0:=ha1.cell 0;have c1:=ha1.cell 1;have c2:=ha1.cell 2;have hlt1:=ha1.lt;have HB1:=hid (Zac (Zac HB0.out HBE.out) hb1);clear ha1 hb1)
        |(go_at_call 39;(with_reducible refine(HBG.out _).mono ?_);rintro e w2 ⟨rfl,hb2⟩;have HB2:=hid (Zac HB1.out hb2);clear hb2))
       go_ret
       exact⟨_,rfl,fun _=>HFW.out (by omega),HB2.out⟩
    ·as_aux_lemma=>
      have HK0:Hid (∀W,Calls Zw 16 #[.agg #[O Z m,O Z c,O Z s]] W fun e w'=>e=Zu (O Z 60)/\Below W.heap.size W w'):=fun W=>by
       have:=hk.out W;rw[Ze hg]at this;exact this
      clear hk HBL HGS
      go_wp2_with (first
       |(go_at_call 16;(with_reducible refine(HK0.out _).mono ?_);rintro e w1 ⟨rfl,hb1⟩;have HB1:=hid (Zac (Zac HB0.out HBE.out) hb1);clear hb1))
      go_ret;exact⟨_,rfl,fun _=>⟨by omega,HN3.out,fun e=>absurd e hg⟩,HB1.out⟩
open Go.RowKit
open Go.RowKit
theorem Zk4(tg:Nat->Nat):∀N,∃t,2≤t/\∀j,j<N->tg j<t
 |0=>⟨2,by omega,fun j hj=>by omega⟩
 |N+1=>by
  obtain⟨t,h1,h2⟩:=Zk4 tg N;refine⟨t+tg N+1,by omega,fun j hj=> ?_⟩;by_cases e:j=N
  ·subst e;omega
  ·have:=h2 j (by omega);omega
theorem Zlj{gs:Nat}{ptr:Nat->Option Nat}{tg dp:Nat->Nat}(h:BayIn w T b s gs ptr tg dp)(k:Nat)(hk:k<s.n)(hx:s.pos (k*3)=some x)(hf:x.d.failed=true)(h2:s.pos (k*3+2)=none):
  Calls Zw 136 #[Zs (some ⟨gs,k*3,none⟩)] w fun e w'=>e=Zu (.bool false)/\w'=w:=by
 obtain⟨dv,hp,hD⟩:=h.some' (k*3) (by omega) x hx;have c0:w.cell? ⟨gs,k*3,none⟩=some (Zs (some ⟨dv,0,none⟩)):=by
  have:=(h.slots.cell (k*3)).trans (Zbh ptr s.n (k*3) (by omega));rw[hp]at this;exact this
 have c2:w.cell? ⟨gs,k*3+2,none⟩=some (.pointer none):=by
  have:=(h.slots.cell (k*3+2)).trans (Zbh ptr s.n (k*3+2) (by omega));rw[h.none' (k*3+2) (by omega) h2]at this;exact this
 have d0:w.cell? ⟨dv,0,none⟩=some (Zs (some ⟨dp (k*3),0,none⟩)):=hD.dev.cell 0;have HF:=Zni T (tg (k*3)) (dp (k*3)) x.d w hD.disk;rw[hf]at HF;have HF:=hid HF;clear h hp hD hx h2;generalize dp (k*3)=gd at*;go_enter Tryz.func136,Tryz.ntmps136;go_wp2_with (go_at_call 171;(with_reducible refine HF.out.mono ?_);rintro e w1 ⟨rfl,hw⟩;subst hw);go_ret;exact⟨rfl,rfl⟩
theorem Zvm(T:Nat->Nat)(t n:Nat)(w:World)(g:Nat)(hg:At w g #[O Z n] 3)(hn:0<n)(hn2:n≤8192):
  Calls Zw 83 #[Zs (some ⟨g,0,none⟩)] w fun e w'=>∃p,e=Zu (.tuple #[Zs (some ⟨p,0,none⟩),.int .u16 0])/\DiskNew w T t p (freshDsk n) w':=by
 have HN:=hid (Zoi T t n w hn hn2);have c0:=hg.cell 0;go_enter Tryz.func83,Tryz.ntmps83;go_wp2_with (go_at_call 57;(with_reducible refine HN.out.mono ?_);rintro e w1 ⟨p,rfl,hd⟩;have HD:=hid hd;clear hd);go_ret2;exact⟨_,rfl,HD.out⟩
theorem Zt3(h:BayAt w T b s)(k n:Nat)(hk:k<s.n)(hx:s.pos (k*3)=some x)(hf:x.d.failed=true)(h2:s.pos (k*3+2)=none)(hn:0<n)(hn2:n≤8192):
  Calls Zw 31 #[Zs (some ⟨b,0,none⟩),O Z k,O Z n] w fun e w'=>e=Zu (.int .u16 0)/\BayPost w T b (s.laid (k*3) ⟨freshDsk n,false,0⟩) w':=by
 obtain⟨gs,ptr,tg,dp,h⟩:=h;obtain⟨t,ht,htg⟩:=Zk4 tg (3*s.n);have hb0:Below w.heap.size w (w.alloc (Zv #[O Z n] 3)):=(Zb _ _).alloc (Za _) _;have hg0:At (w.alloc (Zv #[O Z n] 3)) w.heap.size #[O Z n] 3:=At.new _ _ _;have h0:=h.keep (Zm hb0 (fun _=>False)) (fun _ _ e=>e);have HLY:Hid (Calls Zw 82 #[Zs (some ⟨b,0,none⟩),O Z k,.func (.func 83) #[] #[Zs (some ⟨w.heap.size,0,none⟩)]] (w.alloc (Zv #[O Z n] 3)) fun e w'=>e=Zu (.int .u16 0)/\BayPost w T b (s.laid (k*3) ⟨freshDsk n,false,0⟩) w'):=by
  have HAT:=hid (Zcg h0 k hk);have HTK:=hid (Zlj h0 k hk hx hf h2);have HSW:=hid (Zvm T t n _ w.heap.size hg0 hn hn2);have HB0:=hid hb0;have H0:=hid h0;have HT:=hid htg;have HK:=hid hk;clear h h0 hg0 hb0 htg hx hf h2 hk;generalize hw1:w.alloc (Zv #[O Z n] 3)=w1 at*;clear hw1;go_enter Tryz.func82,Tryz.ntmps82
  go_wp2_with (first
   |(go_at_call 130;(with_reducible refine HAT.out.mono ?_);rintro e w2 ⟨rfl,hw⟩;subst w2)
   |(go_at_call 136;(with_reducible refine HTK.out.mono ?_);rintro e w2 ⟨rfl,hw⟩;subst w2)
   |(go_at_call 83;(with_reducible refine HSW.out.mono ?_);rintro e w3 ⟨p,rfl,hd⟩;have hbe:Below w1.heap.size w1 w3:=(by obtain⟨_,_,_,_,hb,_⟩:=hd;exact hb);have a3:At (w3.alloc (Zv #[Zs (some ⟨p,0,none⟩),.bool false,O Z 0] 124)) gs (slotCells ptr s.n) 126:=(At.below H0.out.slots hbe H0.out.slots.lt).alloc _;have f3:=a3.free (k*3);have c3:=(a3.cell (k*3)).trans (Zbh ptr s.n (k*3) (by have:=HK.out;omega));have hl3:=H0.out.slots.lt;have HD:=hid hd;clear hd a3 hbe))
  go_ret;obtain⟨T',m1,m2,m3⟩:=H0.out.lay (i:=k*3) (t:=t) (by have:=HK.out;omega) HD.out ht (fun j hj hjk hp=>by have:=HT.out j hj;omega);refine⟨rfl,T',⟨_,_,_,_,m1⟩,fun q hq=>m2 q (Zd hq HB0.out.size),?_⟩;exact(Zm HB0.out _).trans (m3.mono fun q hq=>by rw[hq,H0.out.ts];omega)
 clear h h0 hg0 hb0 htg hx hf h2 hk;go_enter Tryz.func31,Tryz.ntmps31;have hN:=At.new w #[O Z n] 3;have c0:=hN.cell 0;go_wp2_with (go_at_call 82;(with_reducible refine HLY.out.mono ?_);rintro e w2 ⟨rfl,hp⟩;have HP:=hid hp;clear hp);go_ret;exact⟨rfl,HP.out⟩
end Go.Proofs.YtljjjpakcbcioaaGreat
