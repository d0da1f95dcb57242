
/- Several texts in one: RlC, Mrg32, RlB, Mrg33. -/
import Derived.Test.YtmemlkmnhcealaaGreatRlA
import Derived.ChangeArms
set_option linter.unusedVariables false
set_option maxRecDepth 100000
set_option maxHeartbeats 1000000
namespace Go.Proofs.YtmemlkmnhcealaaGreat
open Go.RowKit
open Lib(hid)
theorem Znh(l:List UInt8)(i:Nat)(x:UInt8):(ucells l).toArray.setIfInBounds i (.int .u8 ((x.toNat:Nat):Int))=(ucells (l.set i x)).toArray:=by
 apply Array.ext_getElem?;intro j;rw[Array.getElem?_setIfInBounds];simp only [List.getElem?_toArray,List.size_toArray,Zag];unfold ucells;rw[List.getElem?_map,List.getElem?_map,List.getElem?_set];by_cases h:i=j
 ·subst h
  by_cases hi:i<l.length
  ·simp[hi]
  ·simp[hi]
 ·simp[h]
theorem Zhe(l:List Nat)(k:Nat):kcells (l++ [k])=kcells l++ [.int .i64 (k:Int)]:=by simp[kcells]
def rszL(M R ring:Nat):List Nat:=List.replicate M (1+R)++ [2+ring]
theorem Zby(M R ring:Nat):(rszL M R ring).length=M+1:=by simp[rszL]
theorem Zr4(M R ring m:Nat)(h:m<M):(rszL M R ring).getD m 0=1+R:=by
 unfold rszL;rw[Zi,List.getElem?_append_left (by simpa using h),List.getElem?_replicate,Zf h];rfl
theorem Zti(M R ring:Nat):(rszL M R ring).getD M 0=2+ring:=by
 unfold rszL;rw[Zi,List.getElem?_append_right (by simp)];simp
def goneOf(M:Nat)(d:Int):Int:=if d<0\/(M:Int)≤d then -1 else d
def mayIs(m c s ring:Int):Bool:=geoIs m c s&&(decide (5≤ring)&&decide (ring≤2048))
end Go.Proofs.YtmemlkmnhcealaaGreat
namespace Go.Proofs.YtmemlkmnhcealaaGreat
open Go.RowKit
open Lib(hid)
theorem Zkg{w:World}{T:Nat->Nat}{b:Nat}{s:BaySt}{gs:Nat}{ptr:Nat->Option Nat}{tg dp:Nat->Nat}(h:BayIn w T b s gs ptr tg dp)(k:Nat)(hk:k<s.n)(x:Dev)(hx:s.pos (k*3)=some x)(hm:x.d.cache.length≤1000000):
  Calls Tryz.prog 50 #[.pointer (some ⟨b,0,none⟩),.int .i64 k] w fun e w'=>e=.returned (.int .u16 0)/\BayIn w' T b {s with pos:=fun q=>if q=k*3 then some ⟨⟨x.d.last,[],true⟩,x.worn,x.left⟩else s.pos q} gs ptr tg dp/\Chg (fun q=>T q≠0) w w':=by
 obtain⟨dv,hp,hD⟩:=h.some' (k*3) (by omega) x hx;have hth:=hid (Zcf h k dv hk hp);have d0:w.cell? ⟨dv,0,none⟩=some (.pointer (some ⟨dp (k*3),0,none⟩)):=hD.dev.cell 0;have HF:=hid (Zk8 T (tg (k*3)) (dp (k*3)) x.d w hD.disk hm);have HD:=hid hD;have HB:=hid h;have HX:=hid hx;have HP:=hid hp;have HK:=hid hk;clear h hD hx hp hk hm;generalize hg:dp (k*3)=gd at*;go_enter Tryz.func50,Tryz.ntmps50
 go_wp2_with (first
  |(go_at_call 93;(with_reducible refine hth.out.mono ?_);rintro e w1 ⟨rfl,hw⟩;obtain rfl:w=w1:=hw.symm)
  |(go_at_call 94;(with_reducible refine HF.out.mono ?_);rintro e w2 ⟨rfl,hdk,hch⟩;have HDK:=hid hdk;have HCH:=hid hch;clear hdk hch d0))
 go_ret;have ht:=HD.out.tag;have h2:=HD.out.two;subst hg;obtain⟨q1,q2⟩:=HB.out.used (by have:=HK.out;omega) HX.out HP.out (x':=⟨⟨x.d.last,[],true⟩,x.worn,x.left⟩) ⟨HD.out.dev.mod HCH.out (fun e=>by omega),ht,h2,HDK.out,HD.out.lo,HD.out.hi⟩ (HCH.out.mono fun q hq=>.inl hq);exact⟨rfl,q1,q2⟩
def BaySt.why(s:BaySt)(k:Int):Int:=if 0≤k/\k<(s.n:Int)then 51 else 1
theorem BaySt.why_is(s:BaySt)(k:Int):s.why k=51\/s.why k=1:=by unfold BaySt.why;split<;>simp
theorem Zo7{w:World}{T:Nat->Nat}{b:Nat}{s:BaySt}{gs:Nat}{ptr:Nat->Option Nat}{tg dp:Nat->Nat}(h:BayIn w T b s gs ptr tg dp)(k:Int)(hk:¬s.is k\/(s.is k/\s.pos (k.toNat*3)=none)):
  Calls Tryz.prog 93 #[.pointer (some ⟨b,0,none⟩),.int .i64 k] w fun e w'=>e=.returned (.tuple #[.pointer none,.int .u16 (s.why k)])/\w'=w:=by
 rcases hk with hk|⟨hk,hp⟩
 ·rw[show s.why k=1 from Ze hk]
  exact Zi1 h k hk
 ·rw[show s.why k=51 from Zf hk]
  have hk2:0≤k/\k<(s.n:Int):=hk;obtain⟨j,rfl⟩:=Int.eq_ofNat_of_zero_le hk2.1;rw[Int.toNat_natCast]at hp;exact Za9 h j (by omega) (h.none' (j*3) (by omega) hp)
open Go.RowKit
theorem Fit.resize{s:BaySt}{G:Nat->Prop}{sz sz':Nat->Nat}(h:Fit s G sz)(he:∀k,k<s.n->sz k=sz' k):Fit s G sz':=⟨h.dark,h.trip,fun k hk hg=>by rw[<-he k hk];exact h.dev k hk hg⟩
structure Made0 (M C S ring:Nat) (s:BaySt):Prop where
 n:s.n=M+1
 fit:Fit s (fun _=>True) (fun j=>if j<M then 1+S*C else 2+ring)
 c0:s.cnt 0=0
 c1:s.cnt 1=(ring:Int)+1
 c2:s.cnt 2=1
 small:s.small (ring+1)
 sec:∀m z,m<M->s.sec m z=zsec
 aside:∀q,q%3≠0->s.pos q=none
def rBay(M R ring:Nat):BaySt:=freshBay (rszL M R ring) (rszL M R ring).length
theorem Zme(M R ring:Nat):(rBay M R ring).n=M+1:=Zby M R ring
theorem Zq7{M R ring:Nat}(hR:R≤4096)(hr:ring≤2048):∀x∈rszL M R ring,0<x/\x≤8192:=by
 intro x hx;unfold rszL at hx;rcases List.mem_append.1 hx with h|h
 ·rw[List.mem_replicate]at h
  omega
 ·simp at h
  omega
theorem Zkp{M C S ring:Nat}(hR:S*C≤4096)(hr:ring≤2048):Fit (rBay M (S*C) ring) (fun _=>True) (fun j=>if j<M then 1+S*C else 2+ring):=by
 refine(Fit.ofCalm (Zqj _ fun x hx=>(Zq7 hR hr x hx).1)).resize fun k hk=> ?_
 have hk':k<M+1:=by have:=Zme M (S*C) ring;unfold rBay at this;omega
 by_cases h:k<M
 ·rw[Zf h,Zr4 _ _ _ _ h]
 ·rw[Ze h,show k=M by omega,Zti]
theorem Zey{M C S ring:Nat}(hR:S*C≤4096)(hr5:5≤ring)(hr:ring≤2048):Made0 M C S ring (formed (rBay M (S*C) ring) M ring 1):=by
 have hf:=Zkp (M:=M) (C:=C) (S:=S) hR hr;have hn:=Zme M (S*C) ring;have hzM:(fun j=>if j<M then 1+S*C else 2+ring) M=2+ring:=Ze (by omega);have hz:=Zee hf M (by omega) trivial ring (by show 2+ring≤(fun j=>if j<M then 1+S*C else 2+ring) M;rw[hzM];omega);obtain⟨f1,f2⟩:=Zdd hz.fit M 1 (recSec 3 1 1 (leN 0 4)) (by rw[hz.n',hn];omega) trivial (by show 1<(fun j=>if j<M then 1+S*C else 2+ring) M;rw[hzM];omega) (Za5 _ _ _ _ (by simp[Zal]));obtain⟨d1,d2⟩:=Zbk f1 M (by rw[f2.n,hz.n',hn];omega) trivial;have hp:∀q,q≠M*3->(formed (rBay M (S*C) ring) M ring 1).pos q=(rBay M (S*C) ring).pos q:=fun q hq=>(d2.pos q hq).trans ((f2.pos q hq).trans (hz.pos q hq))
 refine⟨d2.n.trans (f2.n.trans (hz.n'.trans hn)),d1,?_,?_,?_,?_,fun m z hm=> ?_,fun q hq=>(hp q (by omega)).trans (Ze fun e=>hq e.1)⟩
 ·show((zeroed _ M ring).put M 1 _|>.dried M).cnt 0=0
  rw[d2.c0,f2.c0,hz.c0];rfl
 ·show((zeroed _ M ring).put M 1 _|>.dried M).cnt 1=_
  rw[d2.c1,f2.c1,hz.c1];show(0:Int)+ring+1=_
  omega
 ·show((zeroed _ M ring).put M 1 _|>.dried M).cnt 2=_
  rw[d2.c2,f2.c2,hz.c2];rfl
 ·have:=d2.small _ (f2.small _ (hz.small 0 (Ze1 _ 0)))
  rwa [Nat.zero_add]at this
 ·rw[Zcn (hp (m*3) (by omega))]
  exact Zst _ m z (by rw[Zby];omega) (by rw[Zr4 _ _ _ _ hm];omega)
def BaySt.lose(s:BaySt)(k:Nat):BaySt:={s with pos:=fun q=>if q=k*3 then (s.pos q).map fun x=>⟨⟨x.d.last,[],true⟩,x.worn,x.left⟩else s.pos q}
structure Begun (M C S ring:Nat) (lazy:Bool) (down:Int) (R:RS):Prop where
 M':R.M=M
 C':R.C=C
 S':R.S=S
 size:R.size=ring
 lazy':R.lazy=lazy
 wait:R.wait= []
 fr:R.fr=fun j:Nat=>if (j:Int)=goneOf M down then 0 else -1
 c0:R.s.cnt 0=0
 c1:R.s.cnt 1=(ring:Int)+1
 c2:R.s.cnt 2=1
 next:R.next=1
 small:R.s.small (ring+1)
 used:R.used=0
 sure:R.sure=true
 all:goneOf M down= -1->Fit R.s (fun _=>True) R.szs
 sec0:∀m:Nat,m<M->(m:Int)≠goneOf M down->R.s.sec m 0=zsec
 lost:∀m:Nat,m<M->(m:Int)=goneOf M down->∃x,R.s.pos (m*3)=some x/\x.d.failed=true
 aside:∀q,q%3≠0->R.s.pos q=none
def zeroV:Nat->Nat->Sec:=fun _ _=>zsec
theorem Znj:zsec.length=128:=by simp[zsec]
theorem Zus(m r i:Nat):(zeroV m r).getD i 0=0:=by
 show zsec.getD i 0=0
 unfold zsec;rw[Zi,List.getElem?_replicate];split<;>rfl
def RS.made(M C S ring:Nat)(lazy:Bool)(s:BaySt):RS:=⟨M,C,S,s,1,1,ring,0,0,true,lazy,false,fun _=> -1,[]⟩
theorem Zfb{M C S ring:Nat}{lazy:Bool}{s:BaySt}(hg:geoIs M C S=true)(h5:5≤ring)(h6:ring≤2048)(h:Made0 M C S ring s):Good (RS.made M C S ring lazy s) zeroV:=by
 refine⟨hg,h.n,(h.fit.sub fun _ _=>trivial),fun _ _ _ _=>Znj,fun r hr i hi=> ?_,fun r hr i j hi hj e _=> ?_,fun m r hm hr _ _=>h.sec m _ hm,⟨h5,h6,by show 0<ring;omega,Nat.zero_le _,by show 1≤4611686018427387904;omega,Za _,by show 1≤4611686018427387900;omega⟩,fun p hp=>(by cases hp),fun p hp=>(by cases hp),Nat.zero_le _⟩
 ·exact(Zaz fun m _=>Zus m r i).trans (Zic _)
 ·exfalso
  unfold RS.dn RS.made at e;simp at e
theorem Zsb{s:BaySt}{k:Nat}{x:Dev}(hx:s.pos (k*3)=some x):({s with pos:=fun q=>if q=k*3 then some ⟨⟨x.d.last,[],true⟩,x.worn,x.left⟩else s.pos q}:BaySt)=s.lose k:=by
 unfold BaySt.lose;congr 1;funext q;by_cases h:q=k*3
 ·rw[Zf h,Zf h,h,hx];rfl
 ·rw[Ze h,Ze h]
open Go.RowKit
structure BgAt (W w:World) (T:Nat->Nat) (A:Adr) (R:RS):Prop where
 rw:RwIn w T A R none (.slice none 0 0) []
 old:∀q,q<W.heap.size->T q=0
 hi:W.heap.size≤A.q/\W.heap.size≤A.wp/\W.heap.size≤A.rp/\W.heap.size≤A.fg
 bel:Below W.heap.size W w
theorem BgAt.lat{W w:World}{T:Nat->Nat}{A:Adr}{R:RS}{V:Nat->Nat->Sec}(h:BgAt W w T A R)(hg:Good R V)(hw:R.wait= []):LAt W w T A R V:=by
 obtain⟨h1,h2,h3,h4⟩:=h.hi;refine⟨⟨none,_,_,h.rw⟩,hg,.inr hw,fun q hq=>⟨h.old q hq,?_⟩,h.bel⟩;rintro (e|e|e|e)<;>omega
end Go.Proofs.YtmemlkmnhcealaaGreat
namespace Go.Proofs.YtmemlkmnhcealaaGreat
open Go.RowKit
open Lib(hid)
theorem putsFull{w:World}{a:Option Addr}{n c:Nat}{us:List (Int×List UInt8)}(h:PutSeg w (.slice a n c) us)(hl:0<us.length):∃b o,a=some ⟨b,o,none⟩/\b<w.heap.size/\∀j (h:j<us.length),w.cell? ⟨b,o+j*2,none⟩=some (.int .i64 us[j].1)/\∃x,w.cell? ⟨b,o+j*2+1,none⟩=some x/\Seg w x us[j].2:=by
 obtain⟨a',c',h1,h2,h3,h4⟩:=h;simp only [Zn]at h1;obtain⟨rfl,rfl,rfl⟩:=h1;rcases h4 with e|e
 ·rw[e]at hl
  exact absurd hl (by simp)
 ·exact e
theorem putsLen{w:World}{v:Value}{us:List (Int×List UInt8)}(h:PutSeg w v us)(j:Nat)(hj:j<us.length):(us[j]'hj).2.length≤140737488355328:=by
 obtain⟨a',c',h1,h2,h3,h4⟩:=h;have:=h3 _ (Zj hj);omega
theorem Zq5{m c s:Int}(h:geoIs m c s=true):0≤s*c*(m-1)/\s*c*(m-1)≤61440:=by
 obtain⟨g1,g2,g3,g4,g5,g6⟩:=(Zam m c s).1 h;obtain⟨b1,b2⟩:=Za0 h;have p1:0≤s*c*(m-1):=Int.mul_nonneg b1 (by omega);have p2:s*c*(m-1)≤4096*15:=Int.mul_le_mul b2 (by omega) (by omega) (by omega);exact⟨p1,by omega⟩
end Go.Proofs.YtmemlkmnhcealaaGreat
namespace Go.Proofs.YtmemlkmnhcealaaGreat
open Go.RowKit Go.ChangeShapes Go.WideShapes Go.ChangeAt Go.Deep
open Lib(hid)
theorem Zvz{m c s ring:Int}(h:mayIs m c s ring=true):∃M C S r:Nat,m=M/\c=C/\s=S/\ring=r/\geoIs M C S=true/\5≤r/\r≤2048:=by
 unfold mayIs at h;rw[Bool.and_eq_true,Bool.and_eq_true,decide_eq_true_eq,decide_eq_true_eq]at h;obtain⟨hg,h5,h6⟩:=h;obtain⟨g1,g2,g3,g4,g5,g6⟩:=(Zam m c s).1 hg;obtain⟨M,rfl⟩:=Int.eq_ofNat_of_zero_le (show 0≤m by omega);obtain⟨C,rfl⟩:=Int.eq_ofNat_of_zero_le (show 0≤c by omega);obtain⟨S,rfl⟩:=Int.eq_ofNat_of_zero_le (show 0≤s by omega);obtain⟨r,rfl⟩:=Int.eq_ofNat_of_zero_le (show 0≤ring by omega);exact⟨M,C,S,r,rfl,rfl,rfl,rfl,hg,by omega,by omega⟩
structure RnAt (w0 W:World) (T:Nat->Nat) (A:Adr) (R:RS) (V:Nat->Nat->Sec) (M C S ring:Nat) (lazy:Bool) (a b:Nat):Prop where
 at':LAt w0 W T A R V
 bud:Bud R a b
 M:R.M=M
 C:R.C=C
 S:R.S=S
 size:R.size=ring
 lazy:R.lazy=lazy
theorem Begun.bud{M C S ring:Nat}{lazy:Bool}{down:Int}{R:RS}(h:Begun M C S ring lazy down R)(hr:ring≤2048):Bud R 10000 3000:=by
 refine⟨by rw[h.c0];omega,by rw[h.c1];omega,by rw[h.c2];omega,by rw[h.next];omega,ring+1,h.small,by rw[h.wait];simp;omega⟩
theorem Begun.run{M C S ring:Nat}{lazy:Bool}{down:Int}{R:RS}{w0 W:World}{T:Nat->Nat}{A:Adr}{V:Nat->Nat->Sec}(h:Begun M C S ring lazy down R)(hr:ring≤2048)(hl:LAt w0 W T A R V):RnAt w0 W T A R V M C S ring lazy 10000 3000:=
 ⟨hl,h.bud hr,h.M',h.C',h.S',h.size,h.lazy'⟩
open Go.RowKit
def kR(s:BaySt):RS:=RS.made 3 1 2 10 false s
def kU(x:Sec):List (Int×List UInt8):= [(0,x)]
theorem Zjb(s:BaySt)(x:Sec):batRows (kR s) (kU x)= [0]:=by kernel_rfl
theorem Zu8(s:BaySt)(x:Sec):batPats (kR s) (kU x) 0= [⟨0,0,x⟩]:=by kernel_rfl
theorem Zu9(x:Sec):mostIn 3 (2*1) (tabAll 3 1 (kU x))=2:=by kernel_rfl
theorem k_dn(s:BaySt)(m r:Nat):(kR s).dn m r=false:=by
 unfold RS.dn kR RS.made;simp
theorem k_z(s:BaySt):zOf (kR s) 0= -1:=by
 rcases Zoe (kR s) 0 with ⟨k,-,-,h,-⟩|⟨h,-⟩
 ·have h':(kR s).dn k 0=true:=h
  rw[k_dn]at h';cases h'
 ·exact h
theorem Zxe(s:BaySt)(x:Sec):batRds (kR s) (kU x) 0= [1]:=by
 unfold batRds;rw[k_z,Zu8];kernel_rfl
theorem Zxc(s:BaySt)(x:Sec):batCnt (kR s) (kU x) 1=1:=by
 unfold batCnt;rw[Zjb];show(([0]:List Nat).map fun r=>(kR s).rcs r (batRds (kR s) (kU x) r)).sum=1
 simp only [List.map_cons,List.map_nil,List.sum_cons,List.sum_nil];rw[Zxe];unfold RS.rcs;simp only [List.map_cons,List.map_nil,List.sum_cons,List.sum_nil];unfold RS.rc;rw[k_dn];rfl
theorem Zw4(s:BaySt)(x newp:Sec):outPats (fun m=>(kR s).dn m 0) [⟨0,0,x⟩] 2 0 newp= [⟨0,0,x⟩,⟨2,0,newp⟩]:=by
 rw[show(fun m=>(kR s).dn m 0)=fun _=>false from funext fun m=>k_dn s m 0];kernel_rfl
theorem Zxd(s:BaySt)(V:Nat->Nat->Sec)(x:Sec):∃newp,batOut (kR s) V (kU x) 0= [⟨0,0,x⟩,⟨2,0,newp⟩]:=by
 unfold batOut outOf;rw[Zu8,show parOf (kR s).M (kR s).C 0=2 by kernel_rfl];exact⟨_,Zw4 s x _⟩
theorem Zxg(s:BaySt)(V:Nat->Nat->Sec)(x:Sec):∃newp,batAll (kR s) V (kU x) 1= [⟨0,0,x⟩,⟨2,0,newp⟩]:=by
 obtain⟨newp,h⟩:=Zxd s V x;refine⟨newp,?_⟩;unfold batAll;rw[Zjb];show(([0]:List Nat).flatMap (batOut (kR s) V (kU x)))=_
 simp only [List.flatMap_cons,List.flatMap_nil,List.append_nil];exact h
theorem Zjr{R R1:RS}(h:PlacedR R R1)(L:List PK)(hn:L.Nodup)(hm:∀k,k∈L↔∃p∈R.wait,pkOf p=k)(hu:∀k∈L,R.upAt k=true):R1.s.cnt 1=R.s.cnt 1+(L.length:Nat):=by
 obtain⟨s',rfl,L',h1,h2,h3⟩:=h;have hp:L'.Perm L:=(List.perm_ext_iff_of_nodup h1 hn).2 fun k=>(h2 k).trans (hm k).symm
 show s'.cnt 1=_
 rw[h3.c1,List.filter_eq_self.2 (fun k hk=>hu k (hp.mem_iff.1 hk)),hp.length_eq]
structure KnownRes (R':RS):Prop where
 c0:R'.s.cnt 0=1
 c1:R'.s.cnt 1=18
 c2:R'.s.cnt 2=3
 sealed:R'.sealed=true
 wait:R'.wait= []
 M:R'.M=3
 C:R'.C=1
 S:R'.S=2
 fr:R'.fr=fun _=> -1
 small:R'.s.small 100
 next:R'.next≤10
theorem Zgz(x:Sec)(hx:x.length=128):BatchOk 3 1 2 (kU x):=by
 refine⟨by decide,by show 1≤256;omega,fun u hu=> ?_,fun u hu=> ?_⟩
 ·unfold kU at hu
  rw[List.mem_singleton]at hu;subst hu;exact⟨by show(0:Int)≤0;omega,by show(0:Int)<2*1*(3-1);omega⟩
 ·unfold kU at hu
  rw[List.mem_singleton]at hu;subst hu;exact hx
theorem Zsd{s:BaySt}{x:Sec}{ps:List Pat}{R1 R4 R':RS}{sec:List UInt8}(hm:Made0 3 1 2 10 s)(hx:x.length=128)(h:Batched (kR s) zeroV (kU x) ps R1 R4 R' sec):KnownRes R':=by
 have hg:Good (kR s) zeroV:=Zfb (by decide) (by omega) (by omega) hm;have ok:=Zgz x hx;have e1:R1=kR s:=by
  rcases h.room with ⟨-,e⟩|⟨hr,-⟩
  ·exact e
  ·exfalso
   have hr':10-0<2*mostIn 3 (2*1) (tabAll 3 1 (kU x))+1:=hr;rw[Zu9]at hr';omega
 obtain⟨-,hpats,hahead,hslen,hfin⟩:=h;subst e1;rw[Zjb]at hpats hahead;have hpats':ps.Perm (batAll (kR s) zeroV (kU x) 1):=hpats;have hahead':PlacedR (({kR s with s:=(kR s).s.ticks 0 (batCnt (kR s) (kU x) 1)}:RS).logged ps) R4:=hahead;obtain⟨newp,hall⟩:=Zxg s zeroV x;have hlen:ps.length=2:=by rw[hpats'.length_eq,hall];rfl
 have hlg:Loggable ps:=Zd7 hg ok (by rw[Zjb];simp) (by rw[Zjb];exact hpats');rw[Zxc]at hahead';have g2:=hg.ticks 1;obtain⟨g3,l0,l1,l2,l3,-⟩:=g2.logged hlg;have hw3:(({kR s with s:=(kR s).s.ticks 0 1}:RS).logged ps).wait= []:=rfl;have p1:=Zjr hahead' [] List.nodup_nil (fun k=>⟨fun e=>(by cases e),fun ⟨p,hp,_⟩=>(by rw[hw3]at hp;cases hp)⟩) (fun k hk=>by cases hk);obtain⟨g4,hw4⟩:=g3.placed hahead';obtain⟨-,p0,-,p2,p3,s4,e4⟩:=hahead'.facts g3.ready;have q0:({kR s with s:=(kR s).s.ticks 0 1}:RS).s.cnt 0=1:=by
  show(s.ticks 0 1).cnt 0=1
  rw[Zb7,hm.c0];rfl
 have q1:({kR s with s:=(kR s).s.ticks 0 1}:RS).s.cnt 1=11:=by
  show(s.ticks 0 1).cnt 1=11
  rw[Zbo _ _ _ _ (by decide),hm.c1];rfl
 have q2:({kR s with s:=(kR s).s.ticks 0 1}:RS).s.cnt 2=1:=by
  show(s.ticks 0 1).cnt 2=1
  rw[Zbo _ _ _ _ (by decide),hm.c2]
 have r0:R4.s.cnt 0=1:=by rw[p0,l0,q0]
 have r1:R4.s.cnt 1=15:=by rw[p1,l1,q1,hlen];rfl
 have r2:R4.s.cnt 2=2:=by rw[p2,l2,q2];rfl
 have hM4:R4.M=3:=by rw[e4];rfl
 have hC4:R4.C=1:=by rw[e4];rfl
 have hS4:R4.S=2:=by rw[e4];rfl
 have hfr4:R4.fr=fun _=> -1:=by rw[e4];rfl
 have hsz4:R4.size=10:=by rw[e4];rfl
 have hus4:R4.used=0:=by rw[e4];rfl
 have hnx4:R4.next=1:=by rw[e4];rfl
 have hlz4:R4.lazy=false:=by rw[e4];rfl
 have ok4:BatchOk (kR s).M (kR s).C (kR s).S (kU x):=ok;have hdn4:∀m r,R4.dn m r=(kR s).dn m r:=fun m r=>by unfold RS.dn;rw[hfr4];rfl
 have hperm:ps.Perm (batAll (kR s) zeroV (kU x) (batRows (kR s) (kU x)).length):=by rw[Zjb];exact hpats'
 obtain⟨g5,hp5⟩:=g4.seal (V':=vNext (kR s) zeroV (kU x)) hw4 hslen (cost:=2*ps.length+1) (ps:=ps) (by rw[hsz4,hus4];omega) (by rw[hnx4];omega)
  (fun m r hm' hr=>by rw[hM4]at hm';rw[hS4,hC4]at hr;exact Zfp hg ok4 hm' hr)
  (fun r hr i hi=>by rw[hM4];rw[hS4,hC4]at hr;exact Zf7 hg ok4 hr i hi)
  (fun p hp=>by rw[hM4,hS4,hC4];exact(Zcs hg ok4 (hperm.mem_iff.1 hp)).1)
  (fun p hp=>(Zcs hg ok4 (hperm.mem_iff.1 hp)).2)
  (fun m r hm' hr hw hd=>by
   rw[hM4]at hm'
   rw[hS4,hC4]at hr
   rw[hdn4]at hd
   exact Zet hg ok4 hperm hm' hr hw hd)
  (by omega)
 have c5:=Zh3 hp5;obtain⟨g6,h61,h62,-,h64,-⟩:=g5.end' hfin;have hlz5:(R4.sealedR (2*ps.length+1) sec ps).lazy=false:=hlz4;rcases hfin with ⟨hl,-⟩|⟨-,hpl⟩
 ·rw[hlz5]at hl
  cases hl
 have hsu5:(R4.sealedR (2*ps.length+1) sec ps).sure=false:=rfl;have hsyn:(R4.sealedR (2*ps.length+1) sec ps).synced={R4.sealedR (2*ps.length+1) sec ps with s:=(R4.sealedR (2*ps.length+1) sec ps).s.dried (R4.sealedR (2*ps.length+1) sec ps).M,sure:=true}:=by
  unfold RS.synced;rw[hsu5];rfl
 obtain⟨-,d2⟩:=Zbk g5.fit (R4.sealedR (2*ps.length+1) sec ps).M (by rw[g5.n];omega) (.inl rfl);have y0:(R4.sealedR (2*ps.length+1) sec ps).synced.s.cnt 0=1:=by
  rw[hsyn];show((R4.sealedR (2*ps.length+1) sec ps).s.dried _).cnt 0=1
  rw[d2.c0,hp5.c0,r0]
 have y1:(R4.sealedR (2*ps.length+1) sec ps).synced.s.cnt 1=16:=by
  rw[hsyn];show((R4.sealedR (2*ps.length+1) sec ps).s.dried _).cnt 1=16
  rw[d2.c1,hp5.c1,r1];rfl
 have y2:(R4.sealedR (2*ps.length+1) sec ps).synced.s.cnt 2=3:=by
  rw[hsyn];show((R4.sealedR (2*ps.length+1) sec ps).s.dried _).cnt 2=3
  rw[d2.c2,hp5.c2,r2];rfl
 have hws:(R4.sealedR (2*ps.length+1) sec ps).synced.wait=ps:=by rw[hsyn];rfl
 have hfs:(R4.sealedR (2*ps.length+1) sec ps).synced.fr=fun _=> -1:=by rw[hsyn];exact hfr4
 obtain⟨-,z0,-,z2,z3,s6,e6⟩:=hpl.facts g5.synced.ready
 have z1:=Zjr hpl [pkOf ⟨0,0,x⟩,pkOf ⟨2,0,newp⟩] (by rw[List.nodup_cons];exact⟨fun e=>by rw[List.mem_singleton]at e;exact absurd (congrArg (fun k:PK=>k.1.val) e) (by show ¬(0=2);omega),List.nodup_cons.2 ⟨by simp,List.nodup_nil⟩⟩) (fun k=>by
  rw[hws]
  constructor
  ·intro hk
   rcases List.mem_cons.1 hk with e|hk
   ·exact⟨⟨0,0,x⟩,hpats'.mem_iff.2 (by rw[hall];simp),e.symm⟩
   ·rw[List.mem_singleton]at hk
    exact⟨⟨2,0,newp⟩,hpats'.mem_iff.2 (by rw[hall];simp),hk.symm⟩
  ·rintro ⟨p,hp,rfl⟩
   have hp':=hpats'.mem_iff.1 hp
   rw[hall]at hp'
   rcases List.mem_cons.1 hp' with e|hp'
   ·rw[e];exact List.mem_cons_self
   ·rw[List.mem_singleton]at hp'
    rw[hp']
    exact List.mem_cons_of_mem _ List.mem_cons_self) (fun k _=>by
  unfold RS.upAt RS.dn
  rw[hfs]
  rfl)
 have hcs:Cost (kR s) R' 139264 2000 24 2000 1:=((((hg.cost_ticks 1).trans (g2.cost_logged hlg)).trans (g3.cost_placed hahead')).trans c5).trans (g5.cost_synced.trans (g5.synced.cost_placed hpl))|>.mono (by omega) (by rw[hw3,hws,hlen];show 0+2*2+0+1+(0+2)≤2000;omega) (by omega) (by rw[hw3,hws,hlen];show 0+2*2+0+1+(0+2)≤2000;omega) (by omega)
 have hcs2:∀m,(kR s).s.small m->R'.s.small (m+7):=fun m hm=>by
  have:=(((((hg.cost_ticks 1).trans (g2.cost_logged hlg)).trans (g3.cost_placed hahead')).trans c5).trans (g5.cost_synced.trans (g5.synced.cost_placed hpl))).small m hm;rw[hw3,hws,hlen]at this;exact this.mono (by show m+(0+2*2+0+1+(0+2))≤m+7;omega)
 refine⟨by rw[z0,y0],by rw[z1,y1];rfl,by rw[z2,y2],by rw[<-h64];rfl,?_,?_,?_,?_,?_,?_,?_⟩
 ·rw[e6]
 ·exact hcs.M
 ·exact hcs.C
 ·exact hcs.S
 ·exact hcs.fr
 ·exact(hcs2 _ hm.small).mono (by omega)
 ·have:=hcs.next
  have e:(kR s).next=1:=rfl;omega
theorem Good.mark{R:RS}{V:Nat->Nat->Sec}(h:Good R V)(hf:R.fr=fun _=> -1)(k:Nat):Good (R.marked k true) V:=by
 have hd:∀m r,R.dn m r=false:=fun m r=>by unfold RS.dn;rw[hf];simp
 have hd':∀m r,(R.marked k true).dn m r=decide (m=k):=fun m r=>by
  unfold RS.dn RS.marked;rw[hf];by_cases e:m=k
  ·simp[e]
  ·simp[e]
 refine⟨h.geo,h.n,h.fit.sub fun j hj=> ?_,h.len,h.even,fun r hr i j hi hj e1 e2=> ?_,fun m r hm hr hw _=>h.sec m r hm hr hw (hd m r),⟨h.jrn.z1,h.jrn.z2,h.jrn.tl,h.jrn.us,h.jrn.ep,h.jrn.nx,h.jrn.nx2⟩,h.inp,h.wv,h.few⟩
 ·rcases hj with hj|⟨hj,r,hr,-⟩
  ·exact .inl hj
  ·exact .inr ⟨hj,r,hr,hd j r⟩
 ·have e1':(R.marked k true).dn i r=true:=e1
  have e2':(R.marked k true).dn j r=true:=e2;rw[hd',decide_eq_true_eq]at e1' e2';rw[e1',e2']
open Go.RowKit
theorem Zk9{w:World}{g:Nat}{l:List UInt8}(h:At w g (ucells l).toArray 5)(hl:l.length=128):Seg w (.slice (some ⟨g,0,none⟩) 128 128) l:=by
 have:=Zea (l:=l) (cap:=128) h (by omega) (fun j hj=>by unfold ucells;rw[List.getElem?_toArray,List.getElem?_map,Zh hj];rfl);rw[hl]at this;exact this
def knownS:Sec:=zsec.set 7 5
theorem Zb6:knownS.length=128:=by simp[knownS,zsec]
theorem Zph(V:Nat->Nat->Sec)(s:BaySt)(hg:Good (kR s) V):blkOf 3 1 (vNext (kR s) V (kU knownS)) 0=knownS:=by
 have h:=Zlg hg (Zgz knownS Zb6) (b:=0) (by show 0<2*1*(3-1);omega);exact h
theorem Zuh{w:World}{g p:Nat}{x:Sec}(h:At w p #[.int .i64 0,.slice (some ⟨g,0,none⟩) 128 128] 60)(hg:At w g (ucells x).toArray 5)(hx:x.length=128):PutSeg w (.slice (some ⟨p,0,none⟩) 1 1) (kU x):=by
 refine⟨some ⟨p,0,none⟩,1,rfl,by show 1≤140737488355328;omega,fun u hu=> ?_,.inr ⟨p,0,rfl,h.lt,fun j hj=> ?_⟩⟩
 ·unfold kU at hu
  rw[List.mem_singleton]at hu;subst hu;show x.length≤_
  omega
 ·have hj0:j=0:=by
   have:(kU x).length=1:=rfl;omega
  subst hj0;exact⟨h.cell 0,_,h.cell 1,Zk9 hg hx⟩
end Go.Proofs.YtmemlkmnhcealaaGreat
