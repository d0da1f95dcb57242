
/- Several texts in one: RwM, RwN. -/
import Derived.Test.YtmemlkmnhcealaaGreatMrg24
set_option linter.unusedVariables false
set_option maxRecDepth 100000
set_option maxHeartbeats 8000000
namespace Go.Proofs.YtmemlkmnhcealaaGreat
open Value renaming int→O,pointer→Zs
open IntKind renaming i64→Z
open Ending renaming returned→Zu
open Go.Proofs.Tryz renaming prog→Zw
open Go.RowKit
open Lib(hid)
variable {A:Adr} {X:List OP} {T:Nat->Nat} {lg:Option Nat} {R R1:RS} {vw:Value} {w:World}
def RS.dries(R:RS):Nat->BaySt
 |0=>R.s
 |m+1=>if R.dn m 0=true then R.dries m else (R.dries m).dried m
structure Dries (R:RS) (s':BaySt) (m:Nat):Prop where
 fit:Fit s' R.G R.szs
 n:s'.n=R.s.n
 c0:s'.cnt 0=R.s.cnt 0
 c1:s'.cnt 1=R.s.cnt 1
 c2:s'.cnt 2≤R.s.cnt 2+m
 small:∀q,R.s.small q->s'.small q
 sec:∀j q,(j<R.M->q<1+R.S*R.C)->s'.sec j q=R.s.sec j q
 pos:∀q,(∀k,k<m->R.dn k 0=false->q≠k*3)->s'.pos q=R.s.pos q
 dry:∀k,k<m->R.dn k 0=false->s'.dry k
theorem Zbe{M C S:Nat}(h:geoIs M C S=true):3≤M/\M≤16/\0<S*C/\S*C≤4096:=by
 have h1:=(Zam _ _ _).1 h;have h3:S*C≤4096:=by have h2:=Za0 h;exact_mod_cast h2.2
 exact⟨by omega,by omega,Nat.mul_pos (by omega) (by omega),h3⟩
theorem RS.G_up(hg:geoIs R.M R.C R.S=true){m:Nat}(hm:m<R.M)(hd:R.dn m 0=false):R.G m:=.inr ⟨hm,0,(Zbe hg).2.2.1,hd⟩
theorem Zel{R:RS}(hg:geoIs R.M R.C R.S=true)(hn:R.s.n=R.M+1)(hf:Fit R.s R.G R.szs):∀m,m≤R.M->Dries R (R.dries m) m
 |0,_=>⟨hf,rfl,rfl,rfl,by show R.s.cnt 2≤R.s.cnt 2+((0:Nat):Int);omega,fun _ h=>h,fun _ _ _=>rfl,fun _ _=>rfl,fun k hk=>by omega⟩
 |m+1,hm=>by
  have ih:=Zel hg hn hf m (by omega);show Dries R (if R.dn m 0=true then R.dries m else (R.dries m).dried m) (m+1)
  cases hd:R.dn m 0
  ·rw[Ze (by simp)]
   obtain⟨h1,h2⟩:=Zbk ih.fit m (by rw[ih.n,hn];omega) (RS.G_up hg (by omega) hd);refine⟨h1,h2.n.trans ih.n,h2.c0.trans ih.c0,h2.c1.trans ih.c1,?_,fun q hq=>h2.small q (ih.small q hq),fun j q hq=> ?_,fun q hq=> ?_,fun k hk hdk=> ?_⟩
   ·rw[h2.c2]
    have:=ih.c2;push_cast;omega
   ·rw[h2.sec j q ?_]
    ·exact ih.sec j q hq
    ·rintro rfl
     unfold RS.szs;rw[Zf (by omega)];exact hq (by omega)
   ·rw[h2.pos q (hq m (by omega) hd)]
    exact ih.pos q fun k hk hdk=>hq k (by omega) hdk
   ·by_cases e:k=m
    ·subst e;exact h2.dry
    ·obtain⟨x,k1,k2⟩:=ih.dry k (by omega) hdk
     exact⟨x,by rw[h2.pos _ (by omega)];exact k1,k2⟩
  ·rw[Zf rfl]
   refine⟨ih.fit,ih.n,ih.c0,ih.c1,?_,ih.small,ih.sec,fun q hq=>ih.pos q fun k hk hdk=>hq k (by omega) hdk,fun k hk hdk=> ?_⟩
   ·have:=ih.c2
    push_cast;omega
   ·by_cases e:k=m
    ·subst e;rw[hd]at hdk;cases hdk
    ·exact ih.dry k (by omega) hdk
structure EachAt (w wr:World) (T T1:Nat->Nat) (A:Adr) (R:RS) (lg:Option Nat) (vw:Value) (X:List OP) (s1:BaySt):Prop where
 rw:RwIn wr T1 A {R with s:=s1} lg vw X
 tags:∀q,q<w.heap.size+1->T1 q=T q
 chg:Chg (fun q=>T q≠0) w wr
 box:At wr w.heap.size #[O Z 0,.int .u16 0] 76
 big:w.heap.size+1≤wr.heap.size
theorem Zrk(h:RwIn w T A R lg vw X)(hg:geoIs R.M R.C R.S=true)(hn:R.s.n=R.M+1)(hf:Fit R.s R.G R.szs)(hcnt:R.s.cnt 2≤999998000000)(hsm:R.s.small 1000000):
  Calls Zw 107 #[Zs (some ⟨A.q,0,none⟩),.func (.func 47) #[] #[]] w fun e w'=>e=Zu (.agg #[O Z 0,.int .u16 0])/\RPost w T A {R with s:=R.dries R.M} lg vw X w':=by
 have hb0:Below w.heap.size w (w.alloc (.cells #[O Z 0,.int .u16 0] 76)):=(Zb _ _).alloc (Za _) _;have htb:T w.heap.size=0:=Zae h.bay _ (Za _);have h0:=h.below hb0;have HD:Hid (∀m,m≤R.M->Dries R (R.dries m) m):=fun m hm=>Zel hg hn hf m hm
 have HE0:Hid (EachAt w (w.alloc (.cells #[O Z 0,.int .u16 0] 76)) T T A R lg vw X (R.dries 0)):=⟨h0,fun _ _=>rfl,Zm hb0 _,At.new _ _ _,by rw[Zaa];omega⟩;have HG:=hid hg;have HN:=hid hn;have HC:=hid hcnt;have HS:=hid hsm;have HM:Hid (R.M≤16):=(Zbe hg).2.1;have c1:(w.alloc (.cells #[O Z 0,.int .u16 0] 76)).cell? ⟨A.q,1,none⟩=some (O Z R.M):=h0.rw.cell 1;have hqlt:=h.rw.lt;have hMM:=HM.out;have HLOW:=hid h.low;have HBB:=hid hb0;clear h hb0 h0 hg hn hf hcnt hsm;go_enter Tryz.func107,Tryz.ntmps107;go_wp2;go_loopw [12] (fun q wr=>∃m:Nat,m≤R.M/\q=O Z m/\∃T1,EachAt w wr T T1 A R lg vw X (R.dries m)) (fun q _=>R.M-(intOf q).toNat);case atStart=>exact⟨0,by omega,rfl,T,HE0.out⟩
 case round=>
  obtain⟨m,hm,rfl,T1,he⟩:=hrel;have HE:=hid he;clear he;by_cases hmM:m<R.M
  ·have K1:Hid (m+1≤R.M):=hmM
   have hd:=HD.out m hm;have HDN:Hid (Calls Zw 114 #[Zs (some ⟨A.q,0,none⟩),O Z m,O Z 0] wr fun e w'=>e=Zu (.bool (R.dn m 0))/\w'=wr):=Zct m 0 wr HE.out.rw.rw HE.out.rw.fr hmM;have hqr:=HE.out.rw.rw.lt;have c0:wr.cell? ⟨A.q,0,none⟩=some (Zs (some ⟨A.b,0,none⟩)):=HE.out.rw.rw.cell 0;cases hdn:R.dn m 0
   ·rw[hdn]at HDN
    have hfl:=Zco hd.fit m (by rw[hd.n,HN.out];omega) (RS.G_up HG.out hmM hdn);have hst:R.dries (m+1)=(R.dries m).dried m:=Ze (by rw[hdn];simp);have HFL:Hid (Calls Zw 47 #[Zs (some ⟨A.b,0,none⟩),O Z m] wr fun e w'=>e=Zu (.int .u16 0)/\∃T1,EachAt w w' T T1 A R lg vw X (R.dries (m+1))):=by
     have k:=Zh8 HE.out.rw.bay m (by have:=hd.c2;have:=HC.out;show(R.dries m).cnt 2≤_;omega) (hd.small _ HS.out);rw[show({R with s:=R.dries m}:RS).s=R.dries m from rfl,hfl]at k;refine k.mono ?_;rintro e w' ⟨rfl,T2,h1,h2,h3⟩;rw[hst];exact⟨rfl,T2,HE.out.rw.turn h1 h2 h3,fun q hq=>(h2 q (by have:=HE.out.big;omega)).trans (HE.out.tags q hq),Zaj HE.out.chg h3 (fun q hq e=>by rw[<-HE.out.tags q (by omega)];exact e),HE.out.box.mod h3 (fun e=>e (by rw[HE.out.tags _ (by omega)];exact htb)),by have:=HE.out.big;have:=h3.size;omega⟩
    clear hd hfl hst hdn
    go_wp2_with (first
     |(go_at_call 114;(with_reducible refine HDN.out.mono ?_);rintro e w4 ⟨rfl,hw4⟩;subst w4)
     |(go_at_call 47;(with_reducible refine HFL.out.mono ?_);rintro e w5 ⟨rfl,T2,he5⟩;have HE5:=hid he5;clear he5))
    exact⟨⟨m+1,K1.out,by go_num,T2,HE5.out⟩,by simp[intOf];omega⟩
   ·rw[hdn]at HDN
    have hst:R.dries (m+1)=R.dries m:=Zf hdn;have HE5:Hid (EachAt w wr T T1 A R lg vw X (R.dries (m+1))):=by rw[hst];exact HE.out
    clear hd hst hdn
    go_wp2_with (first
     |(go_at_call 114;(with_reducible refine HDN.out.mono ?_);rintro e w4 ⟨rfl,hw4⟩;subst w4))
    exact⟨⟨m+1,K1.out,by go_num,T1,HE5.out⟩,by simp[intOf];omega⟩
  ·obtain rfl:m=R.M:=by omega
   have k0:wr.cell? ⟨w.heap.size,0,none⟩=some (O Z 0):=HE.out.box.cell 0;have k1:wr.cell? ⟨w.heap.size,1,none⟩=some (.int .u16 0):=HE.out.box.cell 1;have f0:=HE.out.box.free 0;have f1:=HE.out.box.free 1;have hF:=(HE.out.box.set 0 (O Z 0)).set 1 (.int .u16 0);have r0:=hF.cell 0;have r1:=hF.cell 1;have HEND:Hid (RPost w T A {R with s:=R.dries R.M} lg vw X ((wr.setCell ⟨w.heap.size,0,none⟩ (O Z 0)).setCell ⟨w.heap.size,1,none⟩ (.int .u16 0))):=
    ⟨T1,HE.out.rw.apart HLOW.out (box2 wr w.heap.size (O Z 0) (.int .u16 0)) (fun k e=>by rw[e];exact⟨by rw[HE.out.tags _ (by omega)];exact htb,Za _⟩),fun q hq=>HE.out.tags q (by omega),Zaj (HE.out.chg.mono fun q hq=>.inl hq) (box2 wr w.heap.size (O Z 0) (.int .u16 0)) (fun q hq e=>by omega)⟩
   clear hF HE HBB HLOW HM HS HC HN HG HE0 HD;go_wp2;(try simp only [Exit.inBlock,Exit.then]);refine bodyPost_ret (v:=.agg #[O Z 0,.int .u16 0]) ?_ rfl ⟨rfl,HEND.out⟩;rw[Zai rfl];go_simp;try rfl
theorem Zmj(h:RwIn w T A R lg vw X)(hg:geoIs R.M R.C R.S=true)(hn:R.s.n=R.M+1)(hf:Fit R.s R.G R.szs)(hcnt:R.s.cnt 2≤999998000000)(hsm:R.s.small 1000000):
  Calls Zw 63 #[Zs (some ⟨A.q,0,none⟩)] w fun e w'=>e=Zu (.agg #[O Z 0,.int .u16 0])/\RPost w T A {R with s:=R.dries R.M} lg vw X w':=by
 have hb0:Below w.heap.size w (w.alloc (.cells #[O Z 0,.int .u16 0] 76)):=(Zb _ _).alloc (Za _) _;have htb:T w.heap.size=0:=Zae h.bay _ (Za _);have HEA:=hid (Zrk (h.below hb0) hg hn hf hcnt hsm);have HTB:Hid (At (w.alloc (.cells #[O Z 0,.int .u16 0] 76)) w.heap.size #[O Z 0,.int .u16 0] 76):=At.new _ _ _;have H:=hid h;have HB0:=hid hb0;clear h hb0 hg hn hf;go_enter Tryz.func63,Tryz.ntmps63
 go_wp2_with (first
  |(go_at_call 107;(with_reducible refine HEA.out.mono ?_);rintro e w7 ⟨rfl,hp7⟩;have HP7:=hid hp7;have htb7:=hp7.keep HTB.out htb (H.out.low.ne (Za _));have k0:w7.cell? ⟨w.heap.size,0,none⟩=some (O Z 0):=htb7.cell 0;have k1:w7.cell? ⟨w.heap.size,1,none⟩=some (.int .u16 0):=htb7.cell 1;have f0:=htb7.free 0;have f1:=htb7.free 1;have HT7:=hid htb7;clear hp7 htb7))
 have hF:=(HT7.out.set 0 (O Z 0)).set 1 (.int .u16 0);have r0:=hF.cell 0;have r1:=hF.cell 1;have HEND:Hid (RPost w T A {R with s:=R.dries R.M} lg vw X ((w7.setCell ⟨w.heap.size,0,none⟩ (O Z 0)).setCell ⟨w.heap.size,1,none⟩ (.int .u16 0))):=HP7.out.out HB0.out HT7.out (Za _) (by rw[Zaa];omega) htb (box2 _ _ _ _);clear hF HT7 HP7 HEA HTB H HB0;(try simp only [Exit.inBlock,Exit.then]);refine bodyPost_ret (v:=.agg #[O Z 0,.int .u16 0]) ?_ rfl ⟨rfl,HEND.out⟩;rw[Zai rfl];go_simp;try rfl
open Go.RowKit
def RS.rec3(R:RS):List UInt8:=recSec 3 R.ep R.next (leN ((R.tail+R.used)%R.size) 4)
theorem RS.rec3_length(R:RS):R.rec3.length=128:=Za5 _ _ _ _ (by simp[Zal])
def RS.reclaimed(R:RS):RS:={R with s:=(R.s.put R.M 1 R.rec3).dried R.M,tail:=(R.tail+R.used)%R.size,used:=0}
structure Recl (R:RS) (s':BaySt):Prop where
 fit:Fit s' R.G R.szs
 n:s'.n=R.s.n
 c0:s'.cnt 0=R.s.cnt 0
 c1:s'.cnt 1=R.s.cnt 1+1
 c2:s'.cnt 2=R.s.cnt 2+1
 small:∀q,R.s.small q->s'.small (q+1)
 sec:∀j q,j<R.M->s'.sec j q=R.s.sec j q
 pos:∀q,q≠R.M*3->s'.pos q=R.s.pos q
theorem Zd5(hn:R.s.n=R.M+1)(hf:Fit R.s R.G R.szs):Recl R R.reclaimed.s:=by
 obtain⟨f1,f2⟩:=Zdd hf R.M 1 R.rec3 (by omega) (.inl rfl) (by unfold RS.szs;rw[Ze (by omega)];omega) R.rec3_length;obtain⟨h1,h2⟩:=Zbk f1 R.M (by rw[f2.n];omega) (.inl rfl);refine⟨h1,h2.n.trans f2.n,h2.c0.trans f2.c0,h2.c1.trans f2.c1,h2.c2.trans (by rw[f2.c2]),fun q hq=>h2.small _ (f2.small q hq),fun j q hj=> ?_,fun q hq=>(h2.pos q hq).trans (f2.pos q hq)⟩;show((R.s.put R.M 1 R.rec3).dried R.M).sec j q=_
 rw[h2.sec j q (fun e=>by omega),f2.sec,Ze (fun e=>by omega)]
theorem Zk5(h:RwIn w T A R lg vw X)(hsu:R.sure=true)(hn:R.s.n=R.M+1)(hf:Fit R.s R.G R.szs)
  (h0:0<R.size) (h2:R.size≤2048) (h3:R.tail<R.size) (h4:R.used≤R.size) (he:R.ep≤4611686018427387904) (hn1:1≤R.next) (hn2:R.next≤4611686018427387904) (hcnt:R.s.cnt 1≤999998000000) (hcnt2:R.s.cnt 2≤999998000000) (hsm:R.s.small 999999):
  Calls Zw 97 #[Zs (some ⟨A.wp,0,none⟩)] w fun e w'=>e=Zu (.int .u16 0)/\RPost w T A R.reclaimed none vw X w':=by
 have hwal:=h.wal;rw[hsu]at hwal;obtain⟨f1,f2⟩:=Zdd hf R.M 1 R.rec3 (by omega) (.inl rfl) (by unfold RS.szs;rw[Ze (by omega)];omega) R.rec3_length;have hwf:=Zb4 hf R.M 1 R.rec3 (by omega) (.inl rfl) (by unfold RS.szs;rw[Ze (by omega)];omega) R.rec3_length;have hff:=Zco f1 R.M (by rw[f2.n];omega) (.inl rfl);have ht:tried 0 R.s (R.s.write R.M 1 R.rec3)=(0,R.s.put R.M 1 R.rec3):=by
  show tried 0 _ (R.s.write (R.M:Int) ((1:Nat):Int) _)=_
  rw[hwf];rfl
 have hpt:pointed 0 R.M R.s R.rec3=(0,R.reclaimed.s):=by
  unfold pointed;rw[ht,Zf rfl];exact hff
 have k:=Zis h.bay R.M R.ep A.rp R.next A.wp lg hwal h.tw R.size R.tail R.used h.ring h.tr h0 h2 h3 h4 he hn1 hn2 R.reclaimed.s (by omega) (fun i hi x hx=>Zc (hsm i hi x hx) (by omega)) (by
  show(tried 0 R.s (R.s.write R.M 1 R.rec3)).2.cnt 2≤_
  rw[ht,f2.c2];omega) (by
  show(tried 0 R.s (R.s.write R.M 1 R.rec3)).2.small _
  rw[ht];exact fun i hi x hx=>Zc (f2.small _ hsm i hi x hx) (by omega)) hpt
 refine k.mono ?_;rintro e w' ⟨rfl,T',k1,k2,k3,k4,k5⟩;refine⟨rfl,T',?_,k2,k3.mono fun q hq=>hq.imp id fun e=>e.elim (fun e=>.inr (.inl e)) (fun e=>.inr (.inr (.inl e)))⟩;exact h.walT (R':=R.reclaimed) k1 k2 k3 (by show At w' A.wp (walCells A.b R.M R.ep A.rp R.next R.sure none 0) _;rw[hsu];exact k4) k5 rfl ⟨rfl,rfl,rfl⟩
theorem RwIn.box{w1 w2:World}(k1:RwIn w1 T A R lg vw X){tb:Nat}{cs:Array Value}(hbx:At w1 tb cs 76)(ht:T tb=0)(hc:Chg (fun q=>q=tb) w1 w2):RwIn w2 T A R lg vw X:=
 ⟨k1.bay.keep hc (fun k hk e=>hk (by rw[e];exact ht)),k1.rw.mod hc (Zaw k1.rw hbx (by decide)),k1.fr.mod hc (Zaw k1.fr hbx (by decide)),k1.wt.mod hc (fun g hg e=>k1.wOff hbx (by decide) (by rw[hg,e])) (fun x hx g hg e=>k1.xOff hbx (by decide) x hx (by rw[hg,e])),k1.wtT,k1.wtX,k1.wtM,k1.wal.mod hc (Zaw k1.wal hbx (by decide)),k1.ring.mod hc (Zaw k1.ring hbx (by decide)),k1.tq,k1.tf,k1.tw,k1.tr⟩
structure EmpAt (w wr:World) (T T1:Nat->Nat) (A:Adr) (R1:RS) (lg:Option Nat) (vw:Value) (X:List OP):Prop where
 rw:RwIn wr T1 A R1 lg vw X
 tags:∀q,q<w.heap.size+2->T1 q=T q
 chg:Chg (fun q=>T q≠0\/A.has q) w wr
 box:At wr w.heap.size #[O Z 0,.int .u16 0] 76
 cl:At wr (w.heap.size+1) #[.func (.func 95) #[Zs (some ⟨A.q,0,none⟩)] #[],.func (.func 63) #[Zs (some ⟨A.q,0,none⟩)] #[]] 81
 big:w.heap.size+2≤wr.heap.size
theorem EmpAt.next{wr w5 w6:World}{T1:Nat->Nat}{R2:RS}{lg2:Option Nat}{vw2:Value}{X2:List OP}(h:EmpAt w wr T T1 A R1 lg vw X)(hA:∀q,w.heap.size≤q->¬A.has q)(ht:∀q,w.heap.size≤q->T q=0)(hp:RPost wr T1 A R2 lg2 vw2 X2 w5)(hb:Below w5.heap.size w5 w6):∃T2,EmpAt w w6 T T2 A R2 lg2 vw2 X2:=by
 obtain⟨T2,k1,k2,k3⟩:=hp;have hs:=h.big;have hs3:=k3.size;have hsb:=hb.size;have ho:∀q,w.heap.size≤q->q<w.heap.size+2->¬(T1 q≠0\/A.has q):=fun q h1 h2 e=>by
  rcases e with e|e
  ·exact e (by rw[h.tags q h2,ht q h1])
  ·exact hA q h1 e
 refine⟨T2,k1.below hb,fun q hq=>(k2 q (by omega)).trans (h.tags q hq),?_,(h.box.mod k3 (ho _ (Za _) (by omega))).below hb (by omega),(h.cl.mod k3 (ho _ (by omega) (by omega))).below hb (by omega),by omega⟩;exact(Zaj h.chg k3 (fun q hq e=>by rw[<-h.tags q (by omega)];exact e)).trans (Zm hb _)
def EmpR(R:RS)(k:Nat)(R1:RS):Prop:=(k=0->R1=R)/\(k=1->PlacedR R.synced R1)/\(k=2->∃R2,PlacedR R.synced R2/\R1={R2 with s:=R2.dries R2.M})
structure Jrn (R:RS):Prop where
 z1:5≤R.size
 z2:R.size≤2048
 tl:R.tail<R.size
 us:R.used≤R.size
 ep:R.ep≤4611686018427387904
 nx:1≤R.next
 nx2:R.next≤4611686018427387900
theorem Zfk{α:Type}[BEq α][LawfulBEq α]:∀(L B:List α),L.Nodup->(∀k,k∈L->k∈B)->L.length≤B.length
 | [],B,_,_=>Nat.zero_le _
 |a::L,B,hn,hs=>by
  have ha:=hs a List.mem_cons_self;rw[List.nodup_cons]at hn
  have:=Zfk L (B.erase a) hn.2 (fun k hk=>by
   have hne:k≠a:=fun e=>hn.1 (e ▸ hk)
   rw[List.mem_erase_of_ne hne]
   exact hs k (List.mem_cons_of_mem _ hk))
  rw[List.length_erase_of_mem ha]at this;have hp:0<B.length:=List.length_pos_iff.2 (fun e=>by rw[e]at ha;cases ha);rw[List.length_cons];omega
theorem PlacedR.facts(h:PlacedR R R1)(hr:Ready R):Ready R1/\R1.s.cnt 0=R.s.cnt 0/\R1.s.cnt 1≤R.s.cnt 1+R.wait.length/\R1.s.cnt 2=R.s.cnt 2/\(∀m,R.s.small m->R1.s.small (m+R.wait.length))/\(∃s',R1={R with s:=s',wait:= []}):=by
 obtain⟨s',rfl,L,h1,h2,h3⟩:=h;have hl:L.length≤R.wait.length:=by
  have:=Zfk L (R.wait.map pkOf) h1 (fun k hk=>by
   obtain⟨p,hp,e⟩:=(h2 k).1 hk
   exact List.mem_map.2 ⟨p,hp,e⟩)
  rwa [Zp]at this
 refine⟨⟨hr.geo,h3.n.trans hr.n,h3.fit,fun p hp=>(by cases hp),by show 0≤80000;omega⟩,h3.c0,?_,h3.c2,fun m hm i hi x hx=>Zc (h3.small m hm i hi x hx) (by omega),s',rfl⟩;show s'.cnt 1≤_
 have:=List.length_filter_le R.upAt L;rw[h3.c1];omega
theorem Ready.synced2(h:Ready R):R.synced.s.cnt 0=R.s.cnt 0/\R.synced.s.cnt 2≤R.s.cnt 2+1:=by
 unfold RS.synced;split
 ·exact⟨rfl,by omega⟩
 ·obtain⟨h1,h2⟩:=Zbk h.fit R.M (by rw[h.n];omega) (.inl rfl)
  exact⟨h2.c0,by rw[h2.c2];omega⟩
def EmptyR(R R':RS):Prop:=∃R2,PlacedR R.synced R2/\R'=({R2 with s:=R2.dries R2.M}:RS).reclaimed
theorem Zpk(h:RwIn w T A R lg vw X)(hr:Ready R)(hj:Jrn R)(hcnt:R.s.cnt 1≤999997000000)(hcnt2:R.s.cnt 2≤999997000000)(hsm:R.s.small 800000):
  Calls Zw 53 #[Zs (some ⟨A.q,0,none⟩)] w fun e w'=>e=Zu (.agg #[O Z 0,.int .u16 0])/\∃R' vw' X',EmptyR R R'/\RPost w T A R' none vw' X' w':=by
 have hb1:Below w.heap.size w ((w.alloc (.cells #[O Z 0,.int .u16 0] 76)).alloc (.cells #[.func (.func 95) #[Zs (some ⟨A.q,0,none⟩)] #[],.func (.func 63) #[Zs (some ⟨A.q,0,none⟩)] #[]] 81)):=((Zb _ _).alloc (Za _) _).alloc (by rw[Zaa];omega) _;have HTG:Hid (∀q,w.heap.size≤q->T q=0):=fun q hq=>Zae h.bay q hq
 have hlow:=h.low;have HOFF:Hid (∀q,w.heap.size≤q->¬A.has q):=fun q hq=>hlow.ne hq
 have h1:=h.below hb1;have es:(w.alloc (.cells #[O Z 0,.int .u16 0] 76)).heap.size=w.heap.size+1:=Zaa _ _;have HE0:Hid (EmpAt w ((w.alloc (.cells #[O Z 0,.int .u16 0] 76)).alloc (.cells #[.func (.func 95) #[Zs (some ⟨A.q,0,none⟩)] #[],.func (.func 63) #[Zs (some ⟨A.q,0,none⟩)] #[]] 81)) T T A R lg vw X):=by
  refine⟨h1,fun _ _=>rfl,Zm hb1 _,(At.new w _ _).alloc _,?_,by rw[Zaa,es];omega⟩;rw[<-es];exact At.new _ _ _
 have HST:Hid (∀W T1 vw1 X1,RwIn W T1 A R lg vw1 X1->Calls Zw 95 #[Zs (some ⟨A.q,0,none⟩)] W fun e w'=>e=Zu (.agg #[O Z 0,.int .u16 0])/\∃R' vw' X',PlacedR R.synced R'/\RPost W T1 A R' lg vw' X' w'):=fun W T1 vw1 X1 hW=>Zhy hW hr (by omega) (by omega) (fun i hi x hx=>Zc (hsm i hi x hx) (by omega))
 have hsy:=hr.synced;have hs1:=hr.synced_s;have hs2:=hr.synced2;have hsw:R.synced.wait.length≤80000:=hsy.wfew;have HBA:Hid (∀W T1 R1 lg1 vw1 X1,PlacedR R.synced R1->RwIn W T1 A R1 lg1 vw1 X1->Calls Zw 63 #[Zs (some ⟨A.q,0,none⟩)] W fun e w'=>e=Zu (.agg #[O Z 0,.int .u16 0])/\RPost W T1 A {R1 with s:=R1.dries R1.M} lg1 vw1 X1 w'):=fun W T1 R1 lg1 vw1 X1 hp hW=>by
  obtain⟨k1,k2,k3,k4,k5,s',k6⟩:=hp.facts hsy;exact Zmj hW k1.geo k1.n k1.fit (by omega) (fun i hi x hx=>Zc (k5 _ (hs1.2 _ hsm) i hi x hx) (by omega))
 have HRC:Hid (∀W T1 R2 lg1 vw1 X1,PlacedR R.synced R2->RwIn W T1 A {R2 with s:=R2.dries R2.M} lg1 vw1 X1->Calls Zw 97 #[Zs (some ⟨A.wp,0,none⟩)] W fun e w'=>e=Zu (.int .u16 0)/\RPost W T1 A ({R2 with s:=R2.dries R2.M}:RS).reclaimed none vw1 X1 w'):=fun W T1 R2 lg1 vw1 X1 hp hW=>by
  obtain⟨k1,k2,k3,k4,k5,s',k6⟩:=hp.facts hsy;have hd:=Zel k1.geo k1.n k1.fit R2.M (Za _);obtain⟨s0,e0⟩:=R.synced_eq;rw[e0]at k6;have hM:=(Zbe k1.geo).2.1;have hsure:R2.sure=true:=by rw[k6]
  have hdn:(R2.dries R2.M).n=R2.M+1:=hd.n.trans k1.n;have hc2:=hd.c2;have hc1:=hd.c1;have hz1:R2.size=R.size:=by rw[k6]
  have hz2:R2.tail=R.tail:=by rw[k6]
  have hz3:R2.used=R.used:=by rw[k6]
  have hz4:R2.ep=R.ep:=by rw[k6]
  have hz5:R2.next=R.next:=by rw[k6]
  obtain⟨j1,j2,j3,j4,j5,j6,j7⟩:=hj;exact Zk5 hW hsure hdn hd.fit (by show 0<R2.size;omega) (by show R2.size≤2048;omega) (by show R2.tail<R2.size;omega) (by show R2.used≤R2.size;omega) (by show R2.ep≤_;omega) (by show 1≤R2.next;omega) (by show R2.next≤_;omega) (by show(R2.dries R2.M).cnt 1≤_;omega) (by show(R2.dries R2.M).cnt 2≤_;omega) (fun i hi x hx=>Zc (hd.small _ (k5 _ (hs1.2 _ hsm)) i hi x hx) (by omega))
 have hqlt:=h.rw.lt;clear h hb1 h1 hr hj hsy hs1 hs2 hsw hsm;go_enter Tryz.func53,Tryz.ntmps53;go_wp2;go_loopw [12] (fun q wr=>∃k:Nat,k≤2/\q=O Z k/\∃T1 R1 vw1 X1,EmpR R k R1/\EmpAt w wr T T1 A R1 lg vw1 X1) (fun q _=>2-(intOf q).toNat);case atStart=>exact⟨0,by omega,rfl,T,R,vw,X,⟨fun _=>rfl,fun e=>by omega,fun e=>by omega⟩,HE0.out⟩
 case round=>
  obtain⟨k,hk,rfl,T1,R1,vw1,X1,hR,he⟩:=hrel;have HE:=hid he;have HR:=hid hR;have hqr:=he.rw.rw.lt;have c4:wr.cell? ⟨A.q,4,none⟩=some (Zs (some ⟨A.wp,0,none⟩)):=he.rw.rw.cell 4;have hcl0:=he.cl.cell 0;have hcl1:=he.cl.cell 1;clear hR he;by_cases hk0:k=0
  ·subst hk0
   have h0:=HR.out.1 rfl;subst h0
   go_wp2_with (first
    |(go_at_call 95;go_loud ((with_reducible refine(HST.out _ _ _ _ HE.out.rw).mono ?_);rintro e w5 ⟨rfl,R2,vw2,X2,hpl,hp5⟩;have HPL:=hid hpl;have HN:=hid (HE.out.next HOFF.out HTG.out hp5 ((Zb w5.heap.size w5).alloc (Za _) (.cells #[O Z 0,.int .u16 0] 76)));have hN5:=At.new w5 #[O Z 0,.int .u16 0] 76;have m1:=hN5.cell 1;clear hpl hp5 hN5)))
   obtain⟨T2,hn⟩:=HN.out;exact⟨⟨1,by omega,by go_num,T2,R2,vw2,X2,⟨fun e=>by omega,fun _=>HPL.out,fun e=>by omega⟩,hn⟩,by simp[intOf]⟩
  ·by_cases hk1:k=1
   ·subst hk1
    have HP1:Hid (PlacedR R.synced R1):=HR.out.2.1 rfl
    go_wp2_with (first
     |(go_at_call 63;go_loud ((with_reducible refine(HBA.out _ _ _ _ _ _ HP1.out HE.out.rw).mono ?_);rintro e w5 ⟨rfl,hp5⟩;have HN:=hid (HE.out.next HOFF.out HTG.out hp5 ((Zb w5.heap.size w5).alloc (Za _) (.cells #[O Z 0,.int .u16 0] 76)));have hN5:=At.new w5 #[O Z 0,.int .u16 0] 76;have m1:=hN5.cell 1;clear hp5 hN5)))
    obtain⟨T2,hn⟩:=HN.out;exact⟨⟨2,by omega,by go_num,T2,_,_,_,⟨fun e=>by omega,fun e=>by omega,fun _=>⟨R1,HR.out.2.1 rfl,rfl⟩⟩,hn⟩,by simp[intOf]⟩
   ·obtain rfl:k=2:=by omega
    obtain⟨R2,hp2,he2⟩:=HR.out.2.2 rfl;subst he2;have HP2:=hid hp2;clear hp2
    go_wp2_with (first
     |(go_at_call 97;(with_reducible refine(HRC.out _ _ _ _ _ _ HP2.out HE.out.rw).mono ?_);rintro e w5 ⟨rfl,hp5⟩;have HP5:=hid hp5;have HJ5:Hid (Calls Zw 96 #[Zs (some ⟨A.q,0,none⟩),.int .u16 0] w5 fun e w'=>e=Zu (.agg #[O Z 0,.int .u16 0])/\Below w5.heap.size w5 w'):=(by obtain⟨T5,k5,-⟩:=hp5;exact Zbn w5 k5.rw);clear hp5)
     |(go_at_call 96;(with_reducible refine HJ5.out.mono ?_);rintro e w6 ⟨rfl,hb6⟩;have HN:=hid (HE.out.next HOFF.out HTG.out HP5.out hb6);have HB6:=hid hb6;obtain⟨T6,hn6⟩:=HN.out;have k0:w6.cell? ⟨w.heap.size,0,none⟩=some (O Z 0):=hn6.box.cell 0;have k1:w6.cell? ⟨w.heap.size,1,none⟩=some (.int .u16 0):=hn6.box.cell 1;have f0:=hn6.box.free 0;have f1:=hn6.box.free 1;have HN6:=hid hn6;clear hn6 hb6))
    have hF:=(HN6.out.box.set 0 (O Z 0)).set 1 (.int .u16 0);have r0:=hF.cell 0;have r1:=hF.cell 1;have HEND:Hid (∃R' vw' X',EmptyR R R'/\RPost w T A R' none vw' X' ((w6.setCell ⟨w.heap.size,0,none⟩ (O Z 0)).setCell ⟨w.heap.size,1,none⟩ (.int .u16 0))):=by
     refine⟨_,vw1,X1,⟨R2,HP2.out,rfl⟩,T6,?_,fun q hq=>HN6.out.tags q (by omega),Zaj HN6.out.chg (box2 w6 w.heap.size (O Z 0) (.int .u16 0)) (fun q hq e=>by omega)⟩;exact HN6.out.rw.box HN6.out.box (by rw[HN6.out.tags _ (by omega)];exact HTG.out _ (Za _)) (box2 w6 w.heap.size (O Z 0) (.int .u16 0))
    clear hF HN6 HN HB6 HP5 HJ5 HP2 HE HR HST HBA HRC HE0 HTG HOFF;(try simp only [Exit.inBlock,Exit.then]);refine bodyPost_ret (v:=.agg #[O Z 0,.int .u16 0]) ?_ rfl ⟨rfl,HEND.out⟩;rw[Zai rfl];go_simp;try rfl
end Go.Proofs.YtmemlkmnhcealaaGreat
