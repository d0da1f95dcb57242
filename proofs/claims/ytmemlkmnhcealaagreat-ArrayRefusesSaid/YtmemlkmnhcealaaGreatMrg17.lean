
/- Several texts in one: PlwA, PlwB, PlwC, RwA. -/
import Derived.Test.YtmemlkmnhcealaaGreatPlnK
import Derived.Test.YtmemlkmnhcealaaGreatMrg11
import Derived.Test.YtmemlkmnhcealaaGreatMrg12
set_option linter.unusedVariables false
set_option maxRecDepth 100000
set_option maxHeartbeats 1000000
namespace Go.Proofs.YtmemlkmnhcealaaGreat
open Go.RowKit
variable {cs:Array Value} {z:Int} {ps:List Pat} {l newp:List UInt8} {C M S g j k m n par r:Nat} {d:Nat->Bool} {G R:Nat->List UInt8} {X Y:Nat->Prop} {p:Pat} {t:TypeId} {v:Value} {w:World}
def xsum(f:Nat->UInt8):Nat->UInt8
 |0=>0
 |n+1=>xsum f n^^^f n
theorem Zaz{f g:Nat->UInt8}:∀{n:Nat},(∀i,i<n->f i=g i)->xsum f n=xsum g n
 |0,_=>rfl
 |n+1,h=>by
  show xsum f n^^^f n=xsum g n^^^g n
  rw[Zaz (n:=n) (fun i hi=>h i (by omega)),h n (by omega)]
theorem x4(a b c d:UInt8):(a^^^b)^^^(c^^^d)=(a^^^c)^^^(b^^^d):=by
 rw[UInt8.xor_assoc,UInt8.xor_assoc,<-UInt8.xor_assoc b c d,UInt8.xor_comm b c,UInt8.xor_assoc]
theorem Zeb(f g:Nat->UInt8):∀n,xsum (fun i=>f i^^^g i) n=xsum f n^^^xsum g n
 |0=>by show(0:UInt8)=0^^^0;rw[UInt8.xor_self]
 |n+1=>by
  show xsum (fun i=>f i^^^g i) n^^^(f n^^^g n)=(xsum f n^^^f n)^^^(xsum g n^^^g n)
  rw[Zeb f g n,x4]
theorem Zic:∀n,xsum (fun _=>0) n=0
 |0=>rfl
 |n+1=>by
  show xsum (fun _=>0) n^^^0=0
  rw[Zic n,UInt8.xor_zero]
theorem Zjz(k:Nat)(x:UInt8):∀n,xsum (fun i=>if i=k then x else 0) n=if k<n then x else 0
 |0=>rfl
 |n+1=>by
  show xsum (fun i=>if i=k then x else 0) n^^^(if n=k then x else 0)=_
  rw[Zjz k x n];by_cases h:n=k
  ·subst h
   rw[Ze (by omega),Zf rfl,Zf (by omega),UInt8.zero_xor]
  ·rw[Ze h,UInt8.xor_zero]
   by_cases h2:k<n
   ·rw[Zf h2,Zf (by omega)]
   ·rw[Ze h2,Ze (by omega)]
theorem Zj1(f:Nat->UInt8)(a:Nat):∀b,xsum f (a+b)=xsum f a^^^xsum (fun j=>f (a+j)) b
 |0=>by show xsum f a=xsum f a^^^0;rw[UInt8.xor_zero]
 |b+1=>by
  show xsum f (a+b)^^^f (a+b)=xsum f a^^^(xsum (fun j=>f (a+j)) b^^^f (a+b))
  rw[Zj1 f a b,UInt8.xor_assoc]
def xbut(f:Nat->UInt8)(k n:Nat):UInt8:=xsum (fun i=>if i=k then 0 else f i) n
theorem Zoo(f:Nat->UInt8)(hk:k<n):xsum f n=xbut f k n^^^f k:=by
 have e:∀i,f i=(if i=k then 0 else f i)^^^(if i=k then f k else 0):=fun i=>by
  by_cases h:i=k
  ·subst h;rw[Zf rfl,Zf rfl,UInt8.zero_xor]
  ·rw[Ze h,Ze h,UInt8.xor_zero]
 rw[Zaz (fun i _=>e i),Zeb,Zjz,Zf hk];rfl
theorem Zg8(F:Nat->List UInt8)(k i:Nat):∀n,xorBut F k n i=xbut (fun m=>(F m).getD i 0) k n
 |0=>rfl
 |n+1=>by
  show(if n=k then xorBut F k n i else xorBut F k n i^^^(F n).getD i 0)=xbut (fun m=>(F m).getD i 0) k n^^^(if n=k then 0 else (F n).getD i 0)
  rw[Zg8 F k i n];by_cases h:n=k
  ·rw[Zf h,Zf h,UInt8.xor_zero]
  ·rw[Ze h,Ze h]
theorem Zi6(F:Nat->List UInt8)(i:Nat):∀n,xorUp F n i=xsum (fun m=>(F m).getD i 0) n
 |0=>rfl
 |n+1=>by
  show xorUp F n i^^^_=xsum _ n^^^_
  rw[Zi6 F i n]
def xlist{α:Type}(f:α->UInt8):List α->UInt8
 | []=>0
 |a::l=>f a^^^xlist f l
theorem Zgd{α:Type}(f:α->UInt8)(m:List α):∀l:List α,xlist f (l++m)=xlist f l^^^xlist f m
 | []=>by show _=0^^^_;rw[UInt8.zero_xor];rfl
 |a::l=>by
  show f a^^^xlist f (l++m)=(f a^^^xlist f l)^^^xlist f m
  rw[Zgd f m l,UInt8.xor_assoc]
theorem Zev(q:Nat->Bool)(f:Nat->UInt8):∀n,xlist f (whichTo q n)=xsum (fun m=>if q m=true then f m else 0) n
 |0=>rfl
 |n+1=>by
  rw[Zb3];show _=xsum (fun m=>if q m=true then f m else 0) n^^^(if q n=true then f n else 0)
  rw[<-Zev q f n];split
  ·rw[Zgd]
   show _^^^(f n^^^0)=_
   rw[UInt8.xor_zero]
  ·rw[UInt8.xor_zero]
theorem Zqg(f:Nat->UInt8):∀n,xsum f (n+1)=f 0^^^xsum (fun i=>f (i+1)) n:=fun n=>by
 rw[Nat.add_comm,Zj1 f 1 n];show(0^^^f 0)^^^_=_
 rw[UInt8.zero_xor,Zaz (fun i _=>by rw[Nat.add_comm])]
theorem Zhn{α:Type}(g:α->UInt8)(d:α):∀l:List α,xsum (fun j=>g (l.getD j d)) l.length=xlist g l
 | []=>rfl
 |a::l=>by
  show xsum _ (l.length+1)=g a^^^xlist g l
  rw[Zqg,<-Zhn g d l];rfl
theorem Zuf(L:List Nat)(ls:List (List UInt8))(ps:List Pat)(i:Nat):
  xorUp (addsOf L ls ps) (L.length+ps.length) i=xlist (fun m=>(ls.getD m []).getD i 0) L^^^xlist (fun p=>p.d.getD i 0) ps:=by
 rw[Zi6,Zj1];congr 1
 ·rw[<-Zhn (fun m=>(ls.getD m []).getD i 0) 0 L]
  refine Zaz fun j hj=> ?_
  unfold addsOf;rw[Zf hj]
 ·rw[<-Zhn (fun p=>p.d.getD i 0) pat0 ps]
  refine Zaz fun j hj=> ?_
  unfold addsOf;rw[Ze (by omega),show L.length+j-L.length=j by omega]
def wantD(ps:List Pat)(R:Nat->List UInt8)(m:Nat):List UInt8:=
 match ps.find? (fun p=>p.m==(m:Int))with
 |some p=>p.d
 |none=>R m
theorem Zex(hr:ps.Pairwise fun p q=>p.m<q.m)(hp:p∈ps)(hm:p.m=(m:Int)):wantD ps R m=p.d:=by
 unfold wantD;have:ps.find? (fun p=>p.m==(m:Int))=some p:=by
  induction ps with
  |nil=>cases hp
  |cons q l ih=>
   rw[List.pairwise_cons]at hr;rcases List.mem_cons.1 hp with h|h
   ·subst h
    rw[List.find?_cons_of_pos (by simp[hm])]
   ·have:=hr.1 p h
    rw[List.find?_cons_of_neg (by simp;omega)];exact ih hr.2 h
 rw[this]
theorem Zfe(h:givenIn ps (m:Int)=false):wantD ps R m=R m:=by
 unfold wantD;have:ps.find? (fun p=>p.m==(m:Int))=none:=by
  rw[List.find?_eq_none];intro p hp hq;unfold givenIn at h;rw[List.any_eq_false]at h;exact h p hp hq
 rw[this]
def nsum(f:Nat->Nat):Nat->Nat
 |0=>0
 |n+1=>nsum f n+f n
theorem Zcm{f g:Nat->Nat}:∀{n:Nat},(∀i,i<n->f i=g i)->nsum f n=nsum g n
 |0,_=>rfl
 |n+1,h=>by
  show nsum f n+f n=nsum g n+g n
  rw[Zcm (n:=n) (fun i hi=>h i (by omega)),h n (by omega)]
theorem Zdu(f g:Nat->Nat):∀n,nsum (fun i=>f i+g i) n=nsum f n+nsum g n
 |0=>rfl
 |n+1=>by
  show nsum (fun i=>f i+g i) n+(f n+g n)=(nsum f n+f n)+(nsum g n+g n)
  rw[Zdu f g n];omega
theorem Zc3(k x:Nat):∀n,nsum (fun i=>if i=k then x else 0) n=if k<n then x else 0
 |0=>rfl
 |n+1=>by
  show nsum (fun i=>if i=k then x else 0) n+(if n=k then x else 0)=_
  rw[Zc3 k x n];by_cases h:n=k
  ·subst h
   rw[Ze (by omega),Zf rfl,Zf (by omega)];omega
  ·rw[Ze h]
   by_cases h2:k<n
   ·rw[Zf h2,Zf (by omega),Nat.add_zero]
   ·rw[Ze h2,Ze (by omega)]
theorem Zr8{f:Nat->Nat}:∀{n:Nat},(∀i,i<n->f i≤1)->nsum f n≤n
 |0,_=>Za _
 |n+1,h=>by
  show nsum f n+f n≤n+1
  have:=Zr8 (f:=f) (n:=n) (fun i hi=>h i (by omega));have:=h n (by omega);omega
theorem Zja(p:Pat)(ps:List Pat)(m:Nat):givenIn (p::ps) (m:Int)=(p.m==(m:Int)||givenIn ps (m:Int)):=by
 unfold givenIn;rw[List.any_cons]
theorem Zlv(h:∀q∈ps,p.m<q.m):givenIn ps p.m=false:=by
 unfold givenIn;rw[List.any_eq_false];intro q hq;have:=h q hq;simp;omega
theorem Zif{M:Nat}:∀{ps:List Pat},(ps.Pairwise fun p q=>p.m<q.m)->(∀p∈ps,0≤p.m/\p.m<(M:Int))->nsum (fun m=>if givenIn ps (m:Int)=true then 1 else 0) M=ps.length
 | [],_,_=>by
  have:=Zc3 0 0 M;have e:(fun i:Nat=>if i=0 then 0 else 0)=(fun m:Nat=>if givenIn [] (m:Int)=true then 1 else 0):=by
   funext i;unfold givenIn;simp
  rw[e]at this;rw[this];simp
 |p::ps,h,hb=>by
  rw[List.pairwise_cons]at h;obtain⟨h0,h1⟩:=hb p List.mem_cons_self;have ih:=Zif (M:=M) h.2 (fun q hq=>hb q (List.mem_cons_of_mem _ hq));have hn:=Zlv h.1;have e:∀i,i<M->(if givenIn (p::ps) (i:Int)=true then 1 else 0)=(if i=p.m.toNat then 1 else 0)+(if givenIn ps (i:Int)=true then 1 else 0):=fun i _=>by
   rw[Zja];by_cases hi:i=p.m.toNat
   ·have hi':(i:Int)=p.m:=by omega
    rw[hi',hn];simp;omega
   ·have:(p.m==(i:Int))=false:=by simp;omega
    rw[this,Bool.false_or,Ze hi,Nat.zero_add]
  rw[Zcm e,Zdu,Zc3,Zf (by omega),ih,List.length_cons];omega
theorem Zmb{M i:Nat}{R:Nat->List UInt8}:∀{ps:List Pat},(ps.Pairwise fun p q=>p.m<q.m)->(∀p∈ps,0≤p.m/\p.m<(M:Int))->
  xlist (fun p=>p.d.getD i 0) ps=xsum (fun m=>if givenIn ps (m:Int)=true then (wantD ps R m).getD i 0 else 0) M
 | [],_,_=>by
  refine(Zic M).symm.trans (Zaz fun m _=> ?_);unfold givenIn;simp
 |p::ps,h,hb=>by
  have hpp:=h;rw[List.pairwise_cons]at h;obtain⟨h0,h1⟩:=hb p List.mem_cons_self;have ih:=Zmb (M:=M) (i:=i) (R:=R) h.2 (fun q hq=>hb q (List.mem_cons_of_mem _ hq));have hn:=Zlv h.1;show p.d.getD i 0^^^xlist (fun p=>p.d.getD i 0) ps=_
  have e:∀m,m<M->(if givenIn (p::ps) (m:Int)=true then (wantD (p::ps) R m).getD i 0 else 0)=(if m=p.m.toNat then p.d.getD i 0 else 0)^^^(if givenIn ps (m:Int)=true then (wantD ps R m).getD i 0 else 0):=fun m _=>by
   rw[Zja];by_cases hi:m=p.m.toNat
   ·have hi':(m:Int)=p.m:=by omega
    rw[Zex hpp List.mem_cons_self hi'.symm,hi',hn];simp[hi]
   ·have e1:(p.m==(m:Int))=false:=by simp;omega
    have e2:wantD (p::ps) R m=wantD ps R m:=by
     unfold wantD;rw[List.find?_cons_of_neg (by rw[e1];simp)]
    rw[e1,e2,Bool.false_or,Ze hi,UInt8.zero_xor]
  rw[Zaz e,Zeb,Zjz,Zf (by omega),ih]
def wantR(ps:List Pat)(R:Nat->List UInt8)(par M m:Nat):List UInt8:=if m=par then sumL (fun i=>xbut (fun j=>(wantD ps R j).getD i 0) par M) 128 else wantD ps R m
theorem PlanOk.pw(ok:PlanOk M C S d ps r):ps.Pairwise fun p q=>p.m<q.m:=
 List.pairwise_iff_getElem.2 fun i j hi hj hij=>ok.rising i j hi hj hij
theorem Zpw{f g:Nat->UInt8}(h:∀i,i<n->f i=g i):sumL f n=sumL g n:=by
 unfold sumL;exact List.map_congr_left fun i hi=>h i (by simpa using hi)
theorem Zwj(f:Nat->UInt8)(n i:Nat)(h:i<n):(sumL f n).getD i 0=f i:=by
 rw[Zi];simp[sumL,h]
theorem Zpv(ok:PlanOk M C S d ps r)(hn:M-1≤ps.length)(hm:m<M)(hmp:m≠parOf M C r):givenIn ps (m:Int)=true:=by
 cases hgm:givenIn ps (m:Int)
 ·exfalso
  have hg:=ok.hg;have hM:3≤M:=by
   unfold geoIs at hg;simp only [Bool.and_eq_true,decide_eq_true_eq]at hg;omega
  have hpl:parOf M C r<M:=by unfold parOf;omega
  have hc:=Zif ok.pw (M:=M) (fun p hp=>⟨ok.lo p hp,ok.hi p hp⟩);have hgp:givenIn ps ((parOf M C r:Nat):Int)=false:=by
   unfold givenIn;rw[List.any_eq_false];intro p hp hq;exact ok.np p hp (by simpa using hq)
  have h1:=Zr8 (n:=M) (f:=fun i=>(if givenIn ps (i:Int)=true then 1 else 0)+((if i=m then 1 else 0)+(if i=parOf M C r then 1 else 0))) (fun i _=>by
   by_cases h1:i=m
   ·subst h1
    simp[hgm,hmp]
   ·by_cases h2:i=parOf M C r
    ·subst h2
     simp[hgp,h1]
    ·simp only [h1,h2,if_false]
     split<;>omega)
  rw[Zdu,Zdu,Zc3,Zc3,Zf hm,Zf hpl,hc]at h1;omega
 ·rfl
theorem planned(ok:PlanOk M C S d ps r)(hz:GoneIs d M z)(hdp:d (parOf M C r)=false){ls:List (List UInt8)}
  (hR:∀m∈readsOf ps (parOf M C r) M (modeOf M ps (parOf M C r) z),ls.getD m []=R m) (hev:∀i,i<128->xsum (fun m=>(R m).getD i 0) M=0):
  sumL (xorUp (addsOf (readsOf ps (parOf M C r) M (modeOf M ps (parOf M C r) z)) ls ps) ((readsOf ps (parOf M C r) M (modeOf M ps (parOf M C r) z)).length+ps.length)) 128=wantR ps R (parOf M C r) M (parOf M C r):=by
 unfold wantR;rw[Zf rfl];refine Zpw fun i hi=> ?_
 have hM:3≤M:=by
  have hg:=ok.hg;unfold geoIs at hg;simp only [Bool.and_eq_true,decide_eq_true_eq]at hg;omega
 have hpl:parOf M C r<M:=by unfold parOf;omega
 have hxl:∀L:List Nat,(∀m∈L,ls.getD m []=R m)->xlist (fun m=>(ls.getD m []).getD i 0) L=xlist (fun m=>(R m).getD i 0) L:=fun L hL=>by
  induction L with
  |nil=>rfl
  |cons a L ih=>
   show(ls.getD a []).getD i 0^^^xlist _ L=(R a).getD i 0^^^xlist _ L
   rw[ih (fun m hm=>hL m (List.mem_cons_of_mem _ hm)),hL a List.mem_cons_self]
 rw[Zuf,hxl _ hR,Zmb (M:=M) (i:=i) (R:=R) ok.pw (fun p hp=>⟨ok.lo p hp,ok.hi p hp⟩)];have hev:=hev i hi;have hgp:givenIn ps ((parOf M C r:Nat):Int)=false:=by
  unfold givenIn;rw[List.any_eq_false];intro p hp hq;exact ok.np p hp (by simpa using hq)
 have hzp:z≠((parOf M C r:Nat):Int):=fun e=>by
  rcases hz with ⟨k,h1,h2,h3,-⟩|⟨h1,-⟩
  ·have:k=parOf M C r:=by omega
   rw[this,hdp]at h3;cases h3
  ·omega
 have hfull:M-1-ps.length=0->∀m,m<M->m≠parOf M C r->givenIn ps (m:Int)=true:=fun h m hm hp=>Zpv ok (by omega) hm hp
 generalize parOf M C r=par at*;unfold modeOf;unfold xbut;by_cases h0:M-1-ps.length=0
 ·rw[Zf h0]
  show(0:UInt8)^^^_=_
  rw[UInt8.zero_xor];refine Zaz fun m hm=> ?_
  by_cases hmp:m=par
  ·subst hmp
   rw[hgp,Zf rfl];rfl
  ·rw[hfull h0 m hm hmp,Ze hmp,Zf rfl]
 ·rw[Ze h0,Ze hzp]
  split
  ·unfold readsOf
   rw[Zf rfl,Zev,<-Zeb];refine Zaz fun m hm=> ?_
   unfold isRest;by_cases hmp:m=par
   ·subst hmp
    rw[hgp];simp
   ·cases hgm:givenIn ps (m:Int)
    ·have e:=Zfe (R:=R) hgm
     simp[hmp,e]
    ·simp[hmp]
  ·unfold readsOf
   rw[Ze (by decide),Zf rfl,Zev];refine Eq.trans (b:=xsum (fun m=>(R m).getD i 0) M^^^_) (by rw[hev,UInt8.zero_xor]) ?_;rw[<-UInt8.xor_assoc,<-Zeb,<-Zeb];refine Zaz fun m hm=> ?_
   unfold isOld;by_cases hmp:m=par
   ·subst hmp
    rw[hgp];simp
   ·cases hgm:givenIn ps (m:Int)
    ·have e:=Zfe (R:=R) hgm
     simp[hmp,e]
    ·simp[hmp]
theorem Zpe(ps:List Pat)(R:Nat->List UInt8)(hp:par<M)(i:Nat)(hi:i<128):xsum (fun m=>(wantR ps R par M m).getD i 0) M=0:=by
 rw[Zoo _ hp];have e1:(wantR ps R par M par).getD i 0=xbut (fun j=>(wantD ps R j).getD i 0) par M:=by
  unfold wantR;rw[Zf rfl,Zwj _ _ _ hi]
 have e2:xbut (fun m=>(wantR ps R par M m).getD i 0) par M=xbut (fun j=>(wantD ps R j).getD i 0) par M:=by
  unfold xbut;refine Zaz fun m _=> ?_
  by_cases h:m=par
  ·rw[Zf h,Zf h]
  ·rw[Ze h,Ze h]
   show(wantR ps R par M m).getD i 0=(wantD ps R m).getD i 0
   unfold wantR;rw[Ze h]
 show xbut (fun m=>(wantR ps R par M m).getD i 0) par M^^^(wantR ps R par M par).getD i 0=0
 rw[e1,e2,UInt8.xor_self]
theorem solved{F:Nat->List UInt8}(hk:k<M)(hev:∀i,i<128->xsum (fun m=>(F m).getD i 0) M=0)(hG:∀m,m<M->m≠k->G m=F m)(hl:(F k).length=128):sumL (xorBut G k M) 128=F k:=by
 apply List.ext_getElem?;intro i;by_cases hi:i<128
 ·have e:=hev i hi
  rw[Zoo _ hk]at e;have e3:xbut (fun m=>(F m).getD i 0) k M=(F k).getD i 0:=by
   have:=congrArg (· ^^^(F k).getD i 0) e;simpa [UInt8.xor_assoc]using this
  have e4:xorBut G k M i=xbut (fun m=>(F m).getD i 0) k M:=by
   rw[Zg8];unfold xbut;refine Zaz fun m hm=> ?_
   by_cases h:m=k
   ·rw[Zf h,Zf h]
   ·rw[Ze h,Ze h]
    show(G m).getD i 0=(F m).getD i 0
    rw[hG m hm h]
  have e5:(sumL (xorBut G k M) 128)[i]?=some (xorBut G k M i):=by simp[sumL,hi]
  rw[e5,e4,e3,Zi,Zh (by omega)];rfl
 ·rw[List.getElem?_eq_none (by rw[Zbq];omega),List.getElem?_eq_none (by omega)]
theorem Zu5(h:j<ps.length):ps.getD j pat0∈ps:=by
 rw[Zi,Zh h];exact Zj h
theorem Zwh(ok:PlanOk M C S d ps r)(R:Nat->List UInt8){x:Pat}(hx:x∈outPats d ps (parOf M C r) r newp):
  ∃m:Nat,m<M/\x.m=(m:Int)/\d m=false/\x.r=(r:Int)/\((m≠parOf M C r/\x.d=wantD ps R m)\/(m=parOf M C r/\x.d=newp)):=by
 unfold outPats at hx;rcases List.mem_append.1 hx with h|h
 ·obtain⟨j,hj,rfl⟩:=List.mem_map.1 h
  unfold whichTo at hj;obtain⟨h1,h2⟩:=List.mem_filter.1 hj;have hjl:j<ps.length:=by simpa using h1
  have hmem:=Zu5 hjl;have h0:=ok.lo _ hmem;have hi:=ok.hi _ hmem;have hn:=ok.np _ hmem;refine⟨(ps.getD j pat0).m.toNat,by omega,by omega,?_,ok.rows _ hmem,.inl ⟨by omega,?_⟩⟩
  ·unfold stays at h2
   simpa using h2
  ·exact(Zex ok.pw hmem (by omega)).symm
 ·split at h
  ·simp at h
  ·rename_i hd
   have hg:=ok.hg;unfold geoIs at hg;simp only [Bool.and_eq_true,decide_eq_true_eq]at hg;simp only [List.mem_singleton]at h;subst h;exact⟨parOf M C r,by unfold parOf;omega,rfl,by simpa using hd,rfl,.inr ⟨rfl,rfl⟩⟩
theorem Zmv(ok:PlanOk M C S d ps r)(hd:d m=false)(hm:givenIn ps (m:Int)=true\/m=parOf M C r):
  ∃x∈outPats d ps (parOf M C r) r newp,x.m=(m:Int):=by
 unfold outPats;rcases hm with hm|hm
 ·unfold givenIn at hm
  obtain⟨p,hp,hpm⟩:=List.any_eq_true.1 hm;obtain⟨j,hj,rfl⟩:=List.getElem_of_mem hp;have hpm':ps[j].m=(m:Int):=by simpa using hpm
  have e:ps.getD j pat0=ps[j]:=by rw[Zi,Zh hj];rfl
  refine⟨ps[j],List.mem_append_left _ (List.mem_map.2 ⟨j,?_,e⟩),hpm'⟩;unfold whichTo;refine List.mem_filter.2 ⟨by simpa using hj,?_⟩;unfold stays;rw[e,hpm'];simpa using hd
 ·subst hm
  rw[hd];exact⟨⟨parOf M C r,r,newp⟩,List.mem_append_right _ (by simp),rfl⟩
theorem Zs1(h:∀p∈ps,p.d.length=128)(hR:(R m).length=128):(wantD ps R m).length=128:=by
 unfold wantD;split
 ·rename_i p hp
  exact h p (List.mem_of_find?_eq_some hp)
 ·exact hR
theorem Zsa(h:∀p∈ps,p.d.length=128)(hR:m≠par->(R m).length=128):(wantR ps R par M m).length=128:=by
 unfold wantR;split
 ·exact Zbq _ _
 ·rename_i hm
  exact Zs1 h (hR hm)
open Go.RowKit
def Off(X:Nat->Prop)(v:Value)(l:List UInt8):Prop:=∀b q c,v=.slice (some b) q c->l≠ []->¬X b.block
theorem Znu{S:Nat->Prop}{w':World}(h:Seg w v l)(hc:Chg S w w')(ho:Off S v l):Seg w' v l:=by
 obtain⟨a,cap,hv,hn,h⟩:=h;refine⟨a,cap,hv,hn,?_⟩;rcases h with h|⟨b,off,ha,hlt,hx⟩
 ·exact .inl h
 ·by_cases hl:l= []
  ·exact .inl hl
  ·refine .inr ⟨b,off,ha,Zd hlt hc.size,fun j hj=> ?_⟩
   rw[<-hx j hj];exact hc.cell (p:=⟨b,off+j,none⟩) hlt (ho ⟨b,off,none⟩ _ _ (by rw[hv,ha]) hl)
theorem Off.fresh(h:Seg w v l)(hX:∀k,X k->w.heap.size≤k):Off X v l:=by
 obtain⟨a,cap,hv,hn,h⟩:=h;intro b q c hb hl hx;rw[hv]at hb;simp only [Zn]at hb;obtain⟨rfl,-,-⟩:=hb;rcases h with h|⟨b',off,ha,hlt,-⟩
 ·exact hl h
 ·simp only [Zg]at ha
  subst ha;exact absurd (hX _ hx) (Nat.not_le.2 hlt)
theorem Off.or(h:Off X v l)(h':Off Y v l):Off (fun k=>X k\/Y k) v l:=fun b q c hb hl hx=>by
 rcases hx with hx|hx
 ·exact h b q c hb hl hx
 ·exact h' b q c hb hl hx
theorem Off.mono(h:Off X v l)(hXY:∀k,Y k->X k):Off Y v l:=fun b q c hb hl hx=>h b q c hb hl (hXY _ hx)
theorem Off.own{B:Nat}{e:TypeId}{xs:List Value}(h:w.ownsRow B e 1 v n xs)(hX:∀k,X k->k<B):Off X v l:=fun b q c hb hl hx=>by
 obtain⟨hlt,-⟩:=h.lt b.block (by
  rcases h.2 with ⟨e,-⟩|⟨g,cap,cur,e,-⟩
  ·rw[e]at hb;cases hb
  ·rw[e]at hb
   simp only [Zn,Zg]at hb
   rw[e,<-hb.1]
   rfl)
 exact absurd (hX _ hx) (Nat.not_lt.2 hlt)
def RowsOf(w:World)(g n:Nat)(F:Nat->List UInt8)(X:Nat->Prop):Prop:=
 ∃U:Nat->Value,At w g ((List.range n).map U).toArray 36/\∀j,j<n->Seg w (U j) (F j)/\Off X (U j) (F j)
section
variable {w w':World} {g n:Nat} {F:Nat->List UInt8} {X:Nat->Prop}
theorem Zkq{U:Nat->Value}(hj:j<n):((List.range n).map U).toArray[j]?=some (U j):=by simp[hj]
theorem RowsOf.lt(h:RowsOf w g n F X):g<w.heap.size:=by obtain⟨U,h,_⟩:=h;exact h.lt
theorem RowsOf.free(h:RowsOf w g n F X)(i:Nat):w.frozen? ⟨g,i,none⟩=false:=by obtain⟨U,h,_⟩:=h;exact h.free i
theorem RowsOf.cell(h:RowsOf w g n F X)(hj:j<n):∃u,w.cell? ⟨g,j,none⟩=some u/\Seg w u (F j)/\Off X u (F j):=by
 obtain⟨U,h1,h2⟩:=h;exact⟨U j,(h1.cell j).trans (Zkq hj),h2 j hj⟩
theorem RowsOf.segs(h:RowsOf w g n F X):Segs w (.slice (some ⟨g,0,none⟩) n n) ((List.range n).map F):=by
 have hl:((List.range n).map F).length=n:=by simp
 refine⟨some ⟨g,0,none⟩,n,by rw[hl],by rw[hl];exact Za _,.inr ⟨g,0,rfl,h.lt,fun j hj=> ?_⟩⟩;rw[hl]at hj;obtain⟨u,h1,h2,-⟩:=h.cell hj;refine⟨u,by rw[Nat.zero_add];exact h1,?_⟩;rw[List.getElem_map,List.getElem_range];exact h2
theorem Zlh(F:Nat->List UInt8)(hj:j<n):((List.range n).map F).getD j []=F j:=by
 rw[Zi];simp[hj]
theorem RowsOf.below(h:RowsOf w g n F X)(hb:Below w.heap.size w w'):RowsOf w' g n F X:=by
 obtain⟨U,h1,h2⟩:=h;exact⟨U,h1.below hb h1.lt,fun j hj=>⟨(h2 j hj).1.below hb,(h2 j hj).2⟩⟩
theorem RowsOf.chg{S:Nat->Prop}(h:RowsOf w g n F X)(hc:Chg S w w')(hg:¬S g)(hS:∀k,S k->X k):RowsOf w' g n F X:=by
 obtain⟨U,h1,h2⟩:=h;exact⟨U,h1.mod hc hg,fun j hj=>⟨Znu (h2 j hj).1 hc ((h2 j hj).2.mono hS),(h2 j hj).2⟩⟩
theorem RowsOf.less(h:RowsOf w g n F X)(hY:∀k,Y k->X k):RowsOf w g n F Y:=by
 obtain⟨U,h1,h2⟩:=h;exact⟨U,h1,fun j hj=>⟨(h2 j hj).1,(h2 j hj).2.mono hY⟩⟩
theorem RowsOf.more(h:RowsOf w g n F X)(hY:∀k,Y k->X k\/w.heap.size≤k):RowsOf w g n F Y:=by
 obtain⟨U,h1,h2⟩:=h;refine⟨U,h1,fun j hj=>⟨(h2 j hj).1,?_⟩⟩;exact((h2 j hj).2.or (Off.fresh (h2 j hj).1 (X:=fun k=>w.heap.size≤k) fun k hk=>hk)).mono hY
theorem RowsOf.congr(h:RowsOf w g n F X)(hG:∀j,j<n->G j=F j):RowsOf w g n G X:=by
 obtain⟨U,h1,h2⟩:=h;exact⟨U,h1,fun j hj=>by rw[hG j hj];exact h2 j hj⟩
theorem Off.rows(hs:Seg w v l)(h:RowsOf w g n F X):Off (fun k=>k=g) v l:=by
 obtain⟨a,cap,hv,hn,hs⟩:=hs;obtain⟨U,h1,h2⟩:=h;intro b q c hb hl hx;rw[hv]at hb;simp only [Zn]at hb;obtain⟨rfl,-,-⟩:=hb;rcases hs with hs|⟨b',off,ha,hlt,hc⟩
 ·exact hl hs
 ·simp only [Zg]at ha
  subst ha;simp only at hx;subst hx;have hl0:0<l.length:=List.length_pos_iff.2 hl;have:=hc 0 hl0;rw[h1.cell]at this;by_cases ho:off+0<n
  ·rw[Zkq ho]at this
   obtain⟨a',c',he⟩:=(h2 _ ho).1.shape;rw[he]at this;cases this
  ·rw[Array.getElem?_eq_none (by simp;omega)]at this
   cases this
theorem RowsOf.set(h:RowsOf w g n F X)(hj:j<n){u:Value}(hu:Seg w u l)(ho:Off X u l):RowsOf (w.setCell ⟨g,j,none⟩ u) g n (fun i=>if i=j then l else F i) X:=by
 have hst:Chg (fun k=>k=g) w (w.setCell ⟨g,j,none⟩ u):=Zk (S:=fun k=>k=g) (Zl _ _) ⟨g,j,none⟩ (.inl rfl) _;have hoff:∀{v:Value} {l':List UInt8},Seg w v l'->Seg (w.setCell ⟨g,j,none⟩ u) v l':=fun hs=>Znu hs hst (Off.rows hs h)
 obtain⟨U,h1,h2⟩:=h;refine⟨fun i=>if i=j then u else U i,?_,fun i hi=> ?_⟩
 ·have e:((List.range n).map U).toArray.setIfInBounds j u=((List.range n).map fun i=>if i=j then u else U i).toArray:=by
   apply Array.ext_getElem?;intro i;rw[Array.getElem?_setIfInBounds];by_cases hi:i<n
   ·rw[Zkq hi,Zkq hi]
    by_cases hij:j=i
    ·subst hij;simp[hi]
    ·rw[Ze hij,Ze (Ne.symm hij)]
   ·rw[Array.getElem?_eq_none (by simp;omega),Array.getElem?_eq_none (by simp;omega)]
    by_cases hij:j=i
    ·omega
    ·rw[Ze hij]
  rw[<-e];exact h1.set j u
 ·show Seg _ (if i=j then u else U i) (if i=j then l else F i)/\Off X (if i=j then u else U i) (if i=j then l else F i)
  by_cases hij:i=j
  ·rw[Zf hij,Zf hij]
   exact⟨hoff hu,ho⟩
  ·rw[Ze hij,Ze hij]
   exact⟨hoff (h2 i hi).1,(h2 i hi).2⟩
end
open Go.RowKit
theorem Zbd{q:Nat->Bool}:m∈whichTo q n↔m<n/\q m=true:=by
 unfold whichTo;rw[List.mem_filter,List.mem_range]
theorem Zj8(q:Nat->Bool)(n:Nat):(whichTo q n).Pairwise (· < ·):=by
 unfold whichTo;exact List.Pairwise.filter _ List.pairwise_lt_range
theorem Ze0(q:Nat->Bool):∀n,(whichTo q n).length=nsum (fun m=>if q m=true then 1 else 0) n
 |0=>rfl
 |n+1=>by
  rw[Zb3];show _=nsum _ n+(if q n=true then 1 else 0)
  rw[<-Ze0 q n];split<;>simp
theorem geo3(h:geoIs M C S=true):3≤M:=by
 unfold geoIs at h;simp only [Bool.and_eq_true,decide_eq_true_eq]at h;omega
theorem Zkh(ok:PlanOk M C S d ps r)(hz:GoneIs d M z)(hm:m∈readsOf ps (parOf M C r) M (modeOf M ps (parOf M C r) z)):m<M/\d m=false:=by
 have hzm:d m=true->m<M->z=(m:Int):=fun hd hlt=>by
  rcases hz with ⟨k,h1,h2,h3,-⟩|⟨-,h2⟩
  ·rw[h1,ok.lone k m h2 hlt h3 hd]
  ·rw[h2 m hlt]at hd;cases hd
 generalize parOf M C r=par at*;unfold readsOf modeOf at hm;by_cases h0:M-1-ps.length=0
 ·rw[Zf h0,Ze (by decide),Ze (by decide)]at hm
  cases hm
 ·rw[Ze h0]at hm
  by_cases hp:z=(par:Int)
  ·rw[Zf hp,Ze (by decide),Ze (by decide)]at hm
   cases hm
  ·rw[Ze hp]at hm
   by_cases hr:(0≤z/\givenIn ps z=true)\/(z<0/\M-1-ps.length<ps.length+1)
   ·rw[Zf hr,Zf rfl]at hm
    obtain⟨h1,h2⟩:=Zbd.1 hm;refine⟨h1,?_⟩;cases hd:d m
    ·rfl
    ·have e:=hzm hd h1
     unfold isRest at h2;rcases hr with ⟨h3,h4⟩|⟨h3,-⟩
     ·rw[e]at h4
      rw[h4]at h2;simp at h2
     ·omega
   ·rw[Ze hr,Ze (by decide),Zf rfl]at hm
    obtain⟨h1,h2⟩:=Zbd.1 hm;refine⟨h1,?_⟩;cases hd:d m
    ·rfl
    ·have e:=hzm hd h1
     unfold isOld at h2;have hne:m≠par:=fun h=>hp (by rw[e,h])
     have h3:(m==par)=false:=by simpa using hne
     rw[h3,Bool.false_or,<-e]at h2;exact absurd (.inl ⟨by omega,h2⟩) hr
theorem Zts(ok:PlanOk M C S d ps r):0<(outPats d ps (parOf M C r) r newp).length:=by
 have hpl:parOf M C r<M:=by have:=geo3 ok.hg;unfold parOf;omega
 cases hd:d (parOf M C r)
 ·obtain⟨x,hx,-⟩:=Zmv ok (newp:=newp) hd (.inr rfl)
  exact List.length_pos_of_mem hx
 ·have hne:=ok.ne
  have hmem:=Zj (l:=ps) (n:=0) hne;have h0:=ok.lo _ hmem;have h1:=ok.hi _ hmem;have h2:=ok.np _ hmem
  obtain⟨x,hx,-⟩:=Zmv ok (newp:=newp) (m:=(ps[0]'hne).m.toNat) (by
   cases h:d (ps[0]'hne).m.toNat
   ·rfl
   ·have:=ok.lone _ _ (by omega) hpl h hd
    omega) (.inl (by
   unfold givenIn
   exact List.any_eq_true.2 ⟨_,hmem,by simp;omega⟩))
  exact List.length_pos_of_mem hx
open Go.RowKit
structure Adr where
 b:Nat
 q:Nat
 wp:Nat
 rp:Nat
 fg:Nat
structure RS where
 M:Nat
 C:Nat
 S:Nat
 s:BaySt
 ep:Nat
 next:Nat
 size:Nat
 tail:Nat
 used:Nat
 sure:Bool
 lazy:Bool
 sealed:Bool
 fr:Nat->Int
 wait:List Pat
def frCells(fr:Nat->Int)(M:Nat):Array Value:=((List.range M).map fun m=>.int .i64 (fr m)).toArray
theorem Zjc(fr:Nat->Int)(M m:Nat)(h:m<M):(frCells fr M)[m]?=some (.int .i64 (fr m)):=by simp[frCells,h]
def rwCells(A:Adr)(R:RS)(vw:Value):Array Value:= #[.pointer (some ⟨A.b,0,none⟩),.int .i64 R.M,.int .i64 R.C,.int .i64 R.S,.pointer (some ⟨A.wp,0,none⟩),.bool R.lazy,.slice (some ⟨A.fg,0,none⟩) R.M R.M,vw,.bool R.sealed]
structure RwIn (W:World) (T:Nat->Nat) (A:Adr) (R:RS) (lg:Option Nat) (vw:Value) (X:List OP):Prop where
 bay:BayAt W T A.b R.s
 rw:At W A.q (rwCells A R vw) 116
 fr:At W A.fg (frCells R.fr R.M) 3
 wt:ORow W 0 vw X
 wtT:∀g,vw.ownBlock=some g->T g=0
 wtX:∀x∈X,∀g,x.2.ownBlock=some g->T g=0
 wtM:X.map (·.1)=R.wait
 wal:At W A.wp (walCells A.b R.M R.ep A.rp R.next R.sure lg 0) 148
 ring:RingAt W A.rp R.size R.tail R.used
 tq:T A.q=0
 tf:T A.fg=0
 tw:T A.wp=0
 tr:T A.rp=0
def RwAt(W:World)(T:Nat->Nat)(A:Adr)(R:RS):Prop:=∃lg vw X,RwIn W T A R lg vw X
def Adr.has(A:Adr)(k:Nat):Prop:=k=A.q\/k=A.wp\/k=A.rp\/k=A.fg
def RwPost(w:World)(T:Nat->Nat)(A:Adr)(R':RS)(w':World):Prop:=∃T',RwAt w' T' A R'/\(∀k,k<w.heap.size->T' k=T k)/\Chg (fun k=>T k≠0\/A.has k) w w'
section
variable {W W':World} {T T':Nat->Nat} {A:Adr} {R:RS} {lg:Option Nat} {vw:Value} {X:List OP}
theorem RwIn.wOff(h:RwIn W T A R lg vw X)(ha:At W g cs t)(ht:167≠t):vw.ownBlock≠some g:=Zah h.wt.row ha ht
theorem RwIn.xOff(h:RwIn W T A R lg vw X)(ha:At W g cs t)(ht:5≠t):∀x∈X,x.2.ownBlock≠some g:=fun x hx=>Zah (h.wt.dat x hx) ha ht
theorem RwIn.turn(h:RwIn W T A R lg vw X){s':BaySt}(hb:BayAt W' T' A.b s')(hT:∀k,k<W.heap.size->T' k=T k)(hc:Chg (fun k=>T k≠0) W W'):RwIn W' T' A {R with s:=s'} lg vw X:=
 ⟨hb,h.rw.mod hc (fun e=>e h.tq),h.fr.mod hc (fun e=>e h.tf),h.wt.mod hc (fun g hg e=>e (h.wtT g hg)) (fun x hx g hg e=>e (h.wtX x hx g hg)),
  fun g hg=>(hT g (h.wt.row.lt g hg).2).trans (h.wtT g hg),fun x hx g hg=>(hT g ((h.wt.dat x hx).lt g hg).2).trans (h.wtX x hx g hg),h.wtM,h.wal.mod hc (fun e=>e h.tw),h.ring.mod hc (fun e=>e h.tr),
  (hT _ h.rw.lt).trans h.tq,(hT _ h.fr.lt).trans h.tf,(hT _ h.wal.lt).trans h.tw,(hT _ h.ring.lt).trans h.tr⟩
theorem RwIn.below(h:RwIn W T A R lg vw X)(hb:Below W.heap.size W W'):RwIn W' T A R lg vw X:=
 h.turn (h.bay.below hb) (fun _ _=>rfl) (Zm hb _)
theorem RwPost.refl(h:RwAt W T A R):RwPost W T A R W:=⟨T,h,fun _ _=>rfl,Zl _ _⟩
theorem RwPost.at'(h:RwPost W T A R W'):∃T',RwAt W' T' A R:=by
 obtain⟨T',h1,-⟩:=h;exact⟨T',h1⟩
theorem RwPost.size(h:RwPost W T A R W'):W.heap.size≤W'.heap.size:=by
 obtain⟨T',-,-,h3⟩:=h;exact h3.size
theorem RwPost.trans{w1 w2:World}{T1:Nat->Nat}{R2:RS}(hT:∀k,k<W.heap.size->T1 k=T k)(hc:Chg (fun k=>T k≠0\/A.has k) W w1)(h:RwPost w1 T1 A R2 w2):RwPost W T A R2 w2:=by
 obtain⟨T2,h1,h2,h3⟩:=h;exact⟨T2,h1,fun k hk=>(h2 k (Zd hk hc.size)).trans (hT k hk),Zaj hc h3 fun k hk hs=>by rw[<-hT k hk];exact hs⟩
end
def RS.dn(R:RS)(m r:Nat):Bool:=decide (R.fr m≠ -1)&&decide (R.fr m≤(r:Int))
end Go.Proofs.YtmemlkmnhcealaaGreat
