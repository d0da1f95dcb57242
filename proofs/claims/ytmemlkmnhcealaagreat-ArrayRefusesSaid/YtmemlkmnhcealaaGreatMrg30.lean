
/- Several texts in one: RwZ, RxA, PlwG, PlwO, PlwPa, RxB, RxC. -/
import Derived.Test.YtmemlkmnhcealaaGreatRwY
import Derived.Deep.Slices
import Derived.ChangeArms
set_option linter.unusedVariables false
set_option maxRecDepth 100000
set_option maxHeartbeats 1000000
namespace Go.Proofs.YtmemlkmnhcealaaGreat
open Go.RowKit
variable {s s':BaySt} {us:List (Int×List UInt8)} {ps:List Pat} {sec:List UInt8} {C M S a0 a1 a2 b cost e0 e1 e2 f g k m n nx ny r:Nat} {fr:Nat->Int} {V:Nat->Nat->Sec} {p:Pat} {R R1:RS}
structure Good (R:RS) (V:Nat->Nat->Sec):Prop where
 geo:geoIs R.M R.C R.S=true
 n:R.s.n=R.M+1
 fit:Fit R.s R.G R.szs
 len:∀m r,m<R.M->r<R.S*R.C->(V m r).length=128
 even:∀r,r<R.S*R.C->∀i,i<128->xsum (fun m=>(V m r).getD i 0) R.M=0
 lone:∀r,r<R.S*R.C->Lone (fun m=>R.dn m r) R.M
 sec:∀m r,m<R.M->r<R.S*R.C->waitAt R.wait m r=none->R.dn m r=false->R.s.sec m (1+r)=V m r
 jrn:Jrn R
 inp:∀p∈R.wait,InPlace R.M (R.S*R.C) p
 wv:∀p∈R.wait,p.d=V p.m.toNat p.r.toNat
 few:R.wait.length≤512
theorem Znp{d:Sec}(h:waitAt ps m r=some d):∃p∈ps,p.m=(m:Int)/\p.r=(r:Int)/\p.d=d:=by
 unfold waitAt at h;cases hf:ps.find? (fun p=>p.m==(m:Int)&&p.r==(r:Int))with
 |none=>rw[hf]at h;cases h
 |some p=>
  rw[hf]at h;simp only [Option.map_some,Zg]at h;have h1:=List.find?_some hf;simp only [Bool.and_eq_true,beq_iff_eq]at h1;exact⟨p,List.mem_of_find?_eq_some hf,h1.1,h1.2,h⟩
theorem Zmu(h:∀p∈ps,¬(p.m=(m:Int)/\p.r=(r:Int))):waitAt ps m r=none:=by
 unfold waitAt;rw[List.find?_eq_none.2]
 ·rfl
 ·intro p hp
  simp only [Bool.and_eq_true,beq_iff_eq];exact h p hp
theorem Good.sound(h:Good R V):Sound R V:=by
 obtain⟨z1,z2,tl,us,ep,nx,nx2⟩:=h.jrn;refine⟨h.geo,h.n,h.fit,h.len,h.even,h.lone,fun m r hm hr d hd=> ?_,h.sec,by have:=h.few;omega,z1,z2,tl,us,ep,nx⟩;obtain⟨p,hp,h1,h2,h3⟩:=Znp hd;rw[<-h3,h.wv p hp,h1,h2];rfl
theorem Good.ready(h:Good R V):Ready R:=⟨h.geo,h.n,h.fit,h.inp,by have:=h.few;omega⟩
theorem Good.bay(h:Good R V)(hn:s'.n=R.s.n)(hf:Fit s' R.G R.szs)(hs:∀m r,m<R.M->r<R.S*R.C->s'.sec m (1+r)=R.s.sec m (1+r)):Good {R with s:=s'} V:=
 ⟨h.geo,hn.trans h.n,hf,h.len,h.even,h.lone,fun m r hm hr hw hd=>(hs m r hm hr).trans (h.sec m r hm hr hw hd),⟨h.jrn.z1,h.jrn.z2,h.jrn.tl,h.jrn.us,h.jrn.ep,h.jrn.nx,h.jrn.nx2⟩,h.inp,h.wv,h.few⟩
theorem Good.ticks(h:Good R V)(c:Nat):Good {R with s:=R.s.ticks 0 c} V:=h.bay rfl (h.fit.ticks 0 c) (fun _ _ _ _=>rfl)
theorem Good.flags(h:Good R V)(su se la:Bool):Good {R with sure:=su,sealed:=se,lazy:=la} V:=
 ⟨h.geo,h.n,h.fit,h.len,h.even,h.lone,h.sec,⟨h.jrn.z1,h.jrn.z2,h.jrn.tl,h.jrn.us,h.jrn.ep,h.jrn.nx,h.jrn.nx2⟩,h.inp,h.wv,h.few⟩
theorem Good.synced(h:Good R V):Good R.synced V:=by
 unfold RS.synced;split
 ·exact h
 ·obtain⟨h1,h2⟩:=Zbk h.fit R.M (by rw[h.n];omega) (.inl rfl)
  have h3:=h.bay h2.n h1 (fun m r hm hr=>h2.sec m (1+r) (fun e=>by omega));exact h3.flags true R.sealed R.lazy
theorem Good.placed(h:Good R V)(hp:PlacedR R R1):Good R1 V/\R1.wait= []:=by
 obtain⟨s',rfl,L,h1,h2,h3⟩:=hp;obtain⟨g1,g2,g3,g4⟩:=Zbe h.geo;refine⟨⟨h.geo,h3.n.trans h.n,h3.fit,h.len,h.even,h.lone,fun m r hm hr hw hd=> ?_,⟨h.jrn.z1,h.jrn.z2,h.jrn.tl,h.jrn.us,h.jrn.ep,h.jrn.nx,h.jrn.nx2⟩,fun p hp=>(by cases hp),fun p hp=>(by cases hp),by show 0≤512;omega⟩,rfl⟩;show s'.sec m (1+r)=V m r
 have hm:m<R.M:=hm;have hr:r<R.S*R.C:=hr;have hd:R.dn m r=false:=hd;let k:PK:=(⟨m,by omega⟩,⟨r,by omega⟩);by_cases hk:k∈L
 ·have hu:R.upAt k=true:=by
   show(!R.dn m r)=true
   rw[hd];rfl
  have e:=h3.at' k hk hu;have e1:s'.sec m (1+r)=(gTo R.wait R.wait.length k).getD zsec:=e;rw[e1];have hsome:(gTo R.wait R.wait.length k).isSome=true:=by
   rw[Zml R.wait k R.wait.length (Za _),List.take_length];exact(h2 k).1 hk
  obtain⟨s,hs⟩:=Option.isSome_iff_exists.1 hsome;obtain⟨p,hp,hpk,hpd⟩:=Zm7 R.wait k s R.wait.length (Za _) hs;obtain⟨p1,p2,-,-⟩:=Zv6 (h.inp p hp) g2 g4;rw[hs];show s=_
  rw[<-hpd,h.wv p hp,p1,p2,hpk];rfl
 ·rw[h3.off m (1+r) (fun j hj hu e=>hk (by
   have:j=k:=Prod.ext (Fin.ext e.1.symm) (Fin.ext (by have:=e.2;show j.2.val=r;omega))
   rw[<-this];exact hj))]
  refine h.sec m r hm hr (Zmu fun p hp e=>hk ?_) hd
  rw[h2 k]
  refine⟨p,hp,Prod.ext (Fin.ext ?_) (Fin.ext ?_)⟩
  ·show p.m.toNat%16=m
   rw[e.1]
   omega
  ·show p.r.toNat%4096=r
   rw[e.2]
   omega
theorem Good.dries(h:Good R V):Good {R with s:=R.dries R.M} V:=by
 have hd:=Zel h.geo h.n h.fit R.M (Za _);exact h.bay hd.n hd.fit (fun m r hm hr=>hd.sec m (1+r) (fun _=>by omega))
theorem Good.reclaimed(h:Good R V):Good R.reclaimed V:=by
 have hr:=Zd5 h.n h.fit;have h1:=h.bay hr.n hr.fit (fun m r hm _=>hr.sec m (1+r) hm);have hz:=h.jrn;exact⟨h1.geo,h1.n,h1.fit,h1.len,h1.even,h1.lone,h1.sec,⟨hz.z1,hz.z2,Nat.mod_lt _ (by have:=hz.z1;show 0<R.size;omega),Nat.zero_le _,hz.ep,hz.nx,hz.nx2⟩,h1.inp,h1.wv,h1.few⟩
theorem Good.empty(h:Good R V)(he:EmptyR R R1):Good R1 V/\R1.wait= []/\R1.used=0/\R1.sure=true:=by
 obtain⟨R2,hp,rfl⟩:=he;obtain⟨h2,hw⟩:=h.synced.placed hp;refine⟨h2.dries.reclaimed,hw,rfl,?_⟩;obtain⟨s',rfl,-⟩:=hp;exact R.synced_sure
theorem Good.room(h:Good R V)(he:RoomR R n R1):Good R1 V:=by
 rcases he with ⟨-,rfl⟩|⟨-,he⟩
 ·exact h
 ·exact(h.empty he).1
theorem Zcn(h:s'.pos (k*3)=s.pos (k*3))(z:Nat):s'.sec k z=s.sec k z:=by unfold BaySt.sec;rw[h]
structure LogRes (R R':RS) (n:Nat):Prop where
 c0:R'.s.cnt 0=R.s.cnt 0
 c1:R'.s.cnt 1=R.s.cnt 1+(n:Nat)
 c2:R'.s.cnt 2=R.s.cnt 2+1
 small:∀m,R.s.small m->R'.s.small (m+n)
 pos:∀q,q≠R.M*3->R'.s.pos q=R.s.pos q
theorem Good.logged(h:Good R V)(hp:Loggable ps):Good (R.logged ps) V/\LogRes R (R.logged ps) (2*ps.length):=by
 have hz1:=h.jrn.z1;have hz:=Zh1 h.fit R.M R.size ((R.tail+R.used)%R.size) (txnSecs R.ep R.next ps) (by rw[h.n];omega) (.inl rfl) (by unfold RS.szs;rw[Ze (by omega)];omega) (by omega) (Zc5 _ _ _ hp) ((txnSecs R.ep R.next ps).length-1) (Nat.sub_le _ _);have e1:(txnSecs R.ep R.next ps).length-1=2*ps.length:=by rw[Zb9];omega
 rw[e1]at hz;have hs:(R.logged ps).s=(logTo R.s R.M R.size ((R.tail+R.used)%R.size) (txnSecs R.ep R.next ps) (2*ps.length)).dried R.M:=by
  show loggedS _ _ _ _ _=_
  unfold loggedS;rw[e1]
 obtain⟨h1,h2⟩:=Zbk hz.fit R.M (by rw[hz.n',h.n];omega) (.inl rfl);rw[<-hs]at h1 h2;have h3:=h.bay (h2.n.trans hz.n') h1 (fun m r hm hr=>(h2.sec m (1+r) (fun e=>by omega)).trans (Zcn (hz.pos _ (by omega)) _));exact⟨h3.flags true R.sealed R.lazy,h2.c0.trans hz.c0,h2.c1.trans hz.c1,h2.c2.trans (by rw[hz.c2]),fun m hm=>h2.small _ (hz.small m hm),fun q hq=>(h2.pos q hq).trans (hz.pos q hq)⟩
theorem Good.seal{V':Nat->Nat->Sec}(h:Good R V)(hw:R.wait= [])(hsl:sec.length=128)(hc:cost≤R.size-R.used)(hnx:R.next<4611686018427387900)
  (len:∀m r,m<R.M->r<R.S*R.C->(V' m r).length=128) (even:∀r,r<R.S*R.C->∀i,i<128->xsum (fun m=>(V' m r).getD i 0) R.M=0) (hin:∀p∈ps,InPlace R.M (R.S*R.C) p) (hv:∀p∈ps,p.d=V' p.m.toNat p.r.toNat)
  (hst:∀m r,m<R.M->r<R.S*R.C->waitAt ps m r=none->R.dn m r=false->V' m r=V m r) (few:ps.length≤512):Good (R.sealedR cost sec ps) V'/\Put1 R.s (R.sealedR cost sec ps).s R.M (2+((R.tail+R.used)%R.size+(cost-1))%R.size) sec:=by
 have hj:=h.jrn;have hz1:=hj.z1;have hz:2+((R.tail+R.used)%R.size+(cost-1))%R.size<R.szs R.M:=by
  unfold RS.szs;rw[Ze (by omega)];have:=Nat.mod_lt ((R.tail+R.used)%R.size+(cost-1)) (show 0<R.size by omega);omega
 obtain⟨f1,f2⟩:=Zdd h.fit R.M (2+((R.tail+R.used)%R.size+(cost-1))%R.size) sec (by rw[h.n];omega) (.inl rfl) hz hsl;refine⟨⟨h.geo,f2.n.trans h.n,f1,len,even,h.lone,fun m r hm hr hq hd=> ?_,⟨hj.z1,hj.z2,hj.tl,?_,hj.ep,?_,?_⟩,hin,hv,few⟩,f2⟩
 ·have hm:m<R.M:=hm
  have e:(R.sealedR cost sec ps).s.sec m (1+r)=R.s.sec m (1+r):=by
   show(R.s.put R.M _ sec).sec m (1+r)=_
   rw[f2.sec,Ze (fun e=>by omega)]
  rw[e,h.sec m r hm hr (by rw[hw];rfl) hd];exact(hst m r hm hr hq hd).symm
 ·show R.used+cost≤R.size
  have:=hj.us;omega
 ·show 1≤R.next+1
  omega
 ·show R.next+1≤4611686018427387900
  omega
open Go.RowKit
def vNext(R:RS)(V:Nat->Nat->Sec)(us:List (Int×List UInt8))(m r:Nat):Sec:=
 if hasRow R.M (tabAll R.M R.C us) r=true then wantR (batPats R us r) (fun j=>V j r) (parOf R.M R.C r) R.M m else V m r
theorem Zvc(hg:geoIs M C S=true):parOf M C r<M:=by
 have:=(Zbe hg).1;unfold parOf;omega
section
variable {R:RS} {V:Nat->Nat->Sec} {us:List (Int×List UInt8)}
theorem Zi7(h:Good R V)(ok:BatchOk R.M R.C R.S us)(hr:r<R.S*R.C)(hh:hasRow R.M (tabAll R.M R.C us) r=true):PlanOk R.M R.C R.S (fun m=>R.dn m r) (batPats R us r) r:=
 Zr0 (d:=fun m=>R.dn m r) h.geo ok.there ok.len (h.lone _ hr) hr hh
theorem Zfp(h:Good R V)(ok:BatchOk R.M R.C R.S us)(hm:m<R.M)(hr:r<R.S*R.C):(vNext R V us m r).length=128:=by
 unfold vNext;by_cases hh:hasRow R.M (tabAll R.M R.C us) r=true
 ·rw[Zf hh]
  exact Zsa (Zi7 h ok hr hh).len (fun _=>h.len m r hm hr)
 ·rw[Ze hh]
  exact h.len m r hm hr
theorem Zf7(h:Good R V)(ok:BatchOk R.M R.C R.S us)(hr:r<R.S*R.C)(i:Nat)(hi:i<128):xsum (fun m=>(vNext R V us m r).getD i 0) R.M=0:=by
 by_cases hh:hasRow R.M (tabAll R.M R.C us) r=true
 ·rw[Zaz (g:=fun m=>(wantR (batPats R us r) (fun j=>V j r) (parOf R.M R.C r) R.M m).getD i 0) (fun m hm=>by unfold vNext;rw[Zf hh])]
  exact Zpe _ _ (Zvc h.geo) i hi
 ·rw[Zaz (g:=fun m=>(V m r).getD i 0) (fun m hm=>by unfold vNext;rw[Ze hh])]
  exact h.even r hr i hi
theorem batNew(h:Good R V)(ok:BatchOk R.M R.C R.S us)(hr:r<R.S*R.C)(hh:hasRow R.M (tabAll R.M R.C us) r=true)(hdp:R.dn (parOf R.M R.C r) r=false):
  sumL (xorUp (addsOf (batRds R us r) (lsOf R V (batPats R us r) r (zOf R r)) (batPats R us r)) ((batRds R us r).length+(batPats R us r).length)) 128=wantR (batPats R us r) (fun j=>V j r) (parOf R.M R.C r) R.M (parOf R.M R.C r):=by
 have okp:=Zi7 h ok hr hh;refine planned okp (Zoe R r) hdp (fun m hm=> ?_) (fun i hi=>h.even r hr i hi);have hm1:=(Zkh okp (Zoe R r) hm).1;unfold lsOf;rw[Zi,List.getElem?_map,List.getElem?_range hm1];show(if m∈rdsOf R (batPats R us r) r (zOf R r)then V m r else [])=V m r
 exact Zf hm
theorem Zqc(hp:p∈batAll R V us n):∃r,r∈batRows R us/\p∈batOut R V us r:=by
 unfold batAll at hp;obtain⟨r,hr,h2⟩:=List.mem_flatMap.1 hp;exact⟨r,List.mem_of_mem_take hr,h2⟩
theorem Zjs(hr:r∈batRows R us)(hp:p∈batOut R V us r):p∈batAll R V us (batRows R us).length:=by
 unfold batAll;rw[List.take_length];exact List.mem_flatMap.2 ⟨r,hr,hp⟩
theorem Zkz(h:Good R V)(ok:BatchOk R.M R.C R.S us)(hr:r∈batRows R us)(hp:p∈batOut R V us r):∃m:Nat,m<R.M/\p.m=(m:Int)/\p.r=(r:Int)/\R.dn m r=false/\p.d=vNext R V us m r:=by
 obtain⟨hlt,hh⟩:=Zdn hr;have okp:=Zi7 h ok hlt hh;obtain⟨m,h1,h2,h3,h4,h5⟩:=Zwh okp (fun j=>V j r) hp;refine⟨m,h1,h2,h4,h3,?_⟩;unfold vNext;rw[Zf hh];rcases h5 with ⟨h6,h7⟩|⟨h6,h7⟩
 ·rw[h7]
  unfold wantR;rw[Ze h6]
 ·rw[h7]
  subst h6;exact batNew h ok hlt hh h3
theorem Zcs(h:Good R V)(ok:BatchOk R.M R.C R.S us)(hp:p∈batAll R V us n):InPlace R.M (R.S*R.C) p/\p.d=vNext R V us p.m.toNat p.r.toNat:=by
 obtain⟨r,hr,h1⟩:=Zqc hp;obtain⟨hlt,hh⟩:=Zdn hr;obtain⟨m,hm,e1,e2,-,e3⟩:=Zkz h ok hr h1;refine⟨⟨by omega,by omega,by omega,by omega,by rw[e3];exact Zfp h ok hm hlt⟩,?_⟩;rw[e3,e1,e2];rfl
theorem Zji(h:Good R V)(ok:BatchOk R.M R.C R.S us)(hr:r∈batRows R us)(hd:R.dn m r=false)(hm:givenIn (batPats R us r) (m:Int)=true\/m=parOf R.M R.C r):∃p∈batOut R V us r,p.m=(m:Int):=by
 obtain⟨hlt,hh⟩:=Zdn hr;exact Zmv (Zi7 h ok hlt hh) hd hm
theorem Zet(h:Good R V)(ok:BatchOk R.M R.C R.S us)(hps:ps.Perm (batAll R V us (batRows R us).length))(hm:m<R.M)(hr:r<R.S*R.C)(hw:waitAt ps m r=none)(hd:R.dn m r=false):vNext R V us m r=V m r:=by
 by_cases hh:hasRow R.M (tabAll R.M R.C us) r=true
 ·have hrb:r∈batRows R us:=Zbd.2 ⟨hr,hh⟩
  have hno:∀p∈batOut R V us r,p.m≠(m:Int):=fun p hp e=>by
   have h1:=hps.mem_iff.2 (Zjs hrb hp);obtain⟨m',-,e1,e2,-,-⟩:=Zkz h ok hrb hp;unfold waitAt at hw;rw[Option.map_eq_none_iff,List.find?_eq_none]at hw;exact hw p h1 (by simp[e,e2])
  have hg:¬(givenIn (batPats R us r) (m:Int)=true\/m=parOf R.M R.C r):=fun e=>by
   obtain⟨p,hp,he⟩:=Zji (V:=V) h ok hrb hd e;exact hno p hp he
  unfold vNext;rw[Zf hh];unfold wantR;rw[Ze (fun e=>hg (.inr e))]
  exact Zfe (by cases hgi:givenIn (batPats R us r) (m:Int)with
   |false=>rfl
   |true=>exact absurd (.inl hgi) hg)
 ·unfold vNext
  rw[Ze hh]
theorem Zrt(h:Good R V)(ok:BatchOk R.M R.C R.S us)(hr:r∈batRows R us):batOut R V us r≠ []:=by
 obtain⟨hlt,hh⟩:=Zdn hr;have okp:=Zi7 h ok hlt hh;have key:∀m,R.dn m r=false->(givenIn (batPats R us r) (m:Int)=true\/m=parOf R.M R.C r)->batOut R V us r≠ []:=fun m hd hm e=>by
  obtain⟨p,hp,-⟩:=Zji (V:=V) h ok hr hd hm;rw[e]at hp;cases hp
 cases hdp:R.dn (parOf R.M R.C r) r with
 |false=>exact key _ hdp (.inr rfl)
 |true=>
  have hne:=okp.ne;have h0:(batPats R us r)[0]∈batPats R us r:=Zj hne;obtain⟨m,hm⟩:=Int.eq_ofNat_of_zero_le (okp.lo _ h0);have hmlt:m<R.M:=by have:=okp.hi _ h0;omega
  have hmp:m≠parOf R.M R.C r:=fun e=>okp.np _ h0 (by rw[hm,e])
  refine key m ?_ (.inl ?_)
  ·cases hdm:R.dn m r with
   |false=>rfl
   |true=>exact absurd (h.lone r hlt m _ hmlt (Zvc h.geo) hdm hdp) hmp
  ·unfold givenIn
   rw[List.any_eq_true];exact⟨_,h0,by rw[hm];simp⟩
theorem Zrv(h:Good R V)(ok:BatchOk R.M R.C R.S us)(hne:batRows R us≠ []):batAll R V us (batRows R us).length≠ []:=by
 obtain⟨r,hr⟩:=List.exists_mem_of_ne_nil _ hne;obtain⟨p,hp⟩:=List.exists_mem_of_ne_nil _ (Zrt h ok hr);intro e;have:=Zjs hr hp;rw[e]at this;cases this
theorem Zd7(h:Good R V)(ok:BatchOk R.M R.C R.S us)(hne:batRows R us≠ [])(hps:ps.Perm (batAll R V us (batRows R us).length)):Loggable ps:=by
 obtain⟨g1,g2,g3,g4⟩:=Zbe h.geo;have hl:=hps.length_eq;have h1:=Zck R V us (batRows R us).length;have h2:=Zc2 (M:=R.M) (C:=R.C) (S:=R.S) ok.few;have h3:0<(batAll R V us (batRows R us).length).length:=List.length_pos_iff.2 (Zrv h ok hne);refine⟨by omega,by omega,fun p hp=> ?_⟩;obtain⟨⟨a,b,c,d,e⟩,-⟩:=Zcs h ok (hps.mem_iff.1 hp);exact⟨a,by omega,c,by omega,e⟩
end
open Go.RowKit
abbrev RB:=Nat×(Nat->List UInt8)
abbrev KB:=Nat×Array Value×TypeId
structure LawAt (w0 w:World) (B M:Nat) (X:Nat->Prop) (vp:Value) (Y:List OP) (RS:List RB) (KS:List KB):Prop where
 rows:∀p∈RS,RowsOf w p.1 M p.2 X
 kept:∀p∈KS,At w p.1 p.2.1 p.2.2/\p.2.2≠36/\p.2.2≠167
 puts:ORow w B vp Y
 hX:∀k,vp.ownBlock=some k->X k
 rsep:RS.Pairwise fun a b=>a.1≠b.1
 ksep:KS.Pairwise fun a b=>a.1≠b.1
 rlow:∀p∈RS,w0.heap.size≤p.1
 klow:∀p∈KS,w0.heap.size≤p.1
 hB:B≤w.heap.size
 lowB:w0.heap.size≤B
 bel:Below w0.heap.size w0 w
 xin:∀k,X k->w0.heap.size≤k/\k<w.heap.size
namespace LawAt
variable {w0 w w':World} {B M:Nat} {X:Nat->Prop} {vp:Value} {Y:List OP} {RS:List RB} {KS:List KB}
theorem base{B':Nat}(h:LawAt w0 w B M X (.slice none 0 0) [] RS KS)(h1:w0.heap.size≤B')(h2:B'≤w.heap.size):LawAt w0 w B' M X (.slice none 0 0) [] RS KS:=
 ⟨h.rows,h.kept,ORow.nil _ _,h.hX,h.rsep,h.ksep,h.rlow,h.klow,h2,h1,h.bel,h.xin⟩
theorem row(h:LawAt w0 w B M X vp Y RS KS)(i:Nat){F:Nat->List UInt8}(hi:RS[i]?=some (g,F)):RowsOf w g M F X:=by
 obtain⟨hil,hie⟩:=List.getElem?_eq_some_iff.1 hi;have:=h.rows _ (Zj hil);rw[hie]at this;exact this
theorem keep(h:LawAt w0 w B M X vp Y RS KS)(i:Nat){cs:Array Value}{t:TypeId}(hi:KS[i]?=some (g,cs,t)):At w g cs t:=by
 obtain⟨hil,hie⟩:=List.getElem?_eq_some_iff.1 hi;have:=(h.kept _ (Zj hil)).1;rw[hie]at this;exact this
end LawAt
open Go.RowKit Go.ChangeShapes Go.WideShapes Go.ChangeAt Go.Deep
theorem Zkv{H:Type}{enc:TypeId×Value->H}{P:Program}{W:World}{T E fuel:Nat}{v:Value}{x:DataW H×List MemPlace}
  (hT:P.underlying T=some (.slice E)) (hE:P.underlying E=some (.int .u8)) (hc:P.cellsOf E=1) (hb:P.bytesOf E=1)
  (hf:DataW.trod enc P W 0 (fun _=>true) true fuel T [v]=some x) (hw:∀n∈x.1.weights P T,n≤reachBytes):∃l,Seg W v l/\l.length≤140737488351232:=by
 rcases open_ints hT hE hc hf with ⟨hcs,_⟩|⟨x',len,cap,zs,hcs,_,hl,hm,hz,hy,hcell,hwz⟩
 ·simp only [List.cons.injEq,and_true]at hcs
  subst hcs;exact⟨[],Seg.nil _,by simp⟩
 ·simp only [List.cons.injEq,and_true]at hcs
  subst hcs;simp at hz;have hlen:((zs.take len).map fun z=>UInt8.ofNat z.toNat).length=len:=by simp;omega
  refine⟨(zs.take len).map fun z=>UInt8.ofNat z.toNat,⟨some x',cap,by rw[hlen],⟨fun h=>by simp at h,by rw[hlen];exact hl⟩,?_⟩,?_⟩
  ·rcases Nat.eq_zero_or_pos len with h0|h0
   ·left
    apply List.eq_nil_of_length_eq_zero;omega
   ·right
    obtain⟨b,off,rfl,hat⟩:=ints_at hcell (by omega);have hlt:b<W.heap.size:=block_lt_of_cell (hat 0 (by omega));refine⟨b,off,rfl,hlt,fun j hj=> ?_⟩;rw[hlen]at hj;rw[hat j (by omega)];have:=Zki zs hwz j (by omega);rw[List.getElem_map,List.getElem_take];rw[Zi,Zh (by omega)]at this;rw[Zi,Zh (by omega)];simp only [Option.getD_some]at this ⊢;rw[this]
  ·rw[hlen]
   have hmem:((lits .u8 (zs.take len):List (DataW H)).length+(lits .u8 (zs.drop len):List (DataW H)).length)*P.bytesOf E≤reachBytes:=by
    apply hw;rw[hy];simp only [DataW.weights,hT];exact List.mem_cons_self
   rw[hb]at hmem;simp only [lits,Zp,List.length_take,List.length_drop,reachBytes]at hmem;omega
open Go.RowKit
def splitCode(m c s:Int)(us:List (Int×List UInt8)):Int:=
 if geoIs m c s=false then 60 else if 256<us.length then 1 else if us.any (fun u=> !decide (0≤u.1/\u.1<s*c*(m-1)))=true then 3 else if us.any (fun u=> !decide (u.2.length=128))=true then 4 else 0
theorem Zew{α:Type}{us:List α}{p:α->Prop}[DecidablePred p]:us.any (fun u=> !decide (p u))=true↔∃u∈us,¬p u:=by
 rw[List.any_eq_true];constructor
 ·rintro ⟨u,h1,h2⟩;exact⟨u,h1,by simpa using h2⟩
 ·rintro ⟨u,h1,h2⟩;exact⟨u,h1,by simpa using h2⟩
theorem Zqr{m c s:Int}(h:splitCode m c s us=0):∃M C S:Nat,m=M/\c=C/\s=S/\BatchOk M C S us:=by
 unfold splitCode at h;by_cases hg:geoIs m c s=false
 ·rw[Zf hg]at h;omega
 ·rw[Ze hg]at h
  have hg':geoIs m c s=true:=by simpa using hg
  obtain⟨h1,h2,h3,h4,h5,h6⟩:=(Zam m c s).1 hg';by_cases hn:256<us.length
  ·rw[Zf hn]at h;omega
  ·rw[Ze hn]at h
   split at h
   ·omega
   ·rename_i ht
    split at h
    ·omega
    ·rename_i hl
     obtain⟨M,rfl⟩:∃M:Nat,m=M:=⟨m.toNat,by omega⟩;obtain⟨C,rfl⟩:∃C:Nat,c=C:=⟨c.toNat,by omega⟩;obtain⟨S,rfl⟩:∃S:Nat,s=S:=⟨s.toNat,by omega⟩;refine⟨M,C,S,rfl,rfl,rfl,hg',by omega,fun u hu=> ?_,fun u hu=> ?_⟩
     ·exact Classical.byContradiction fun e=>ht (Zew.2 ⟨u,hu,e⟩)
     ·exact Classical.byContradiction fun e=>hl (Zew.2 ⟨u,hu,e⟩)
theorem Zka(m c s:Int)(v:Value)(us:List (Int×List UInt8))(w:World)(hv:PutSeg w v us)(h:splitCode m c s us≠0):
  Calls Tryz.prog 54 #[geo m c s,v] w fun e w'=>e=.returned (.tuple #[.slice none 0 0,.int .u16 (splitCode m c s us)])/\Below w.heap.size w w':=by
 unfold splitCode at h ⊢;by_cases hg:geoIs m c s=false
 ·rw[Zf hg]
  exact Zh0 m c s v us w hg
 ·rw[Ze hg]at h ⊢
  have hg':geoIs m c s=true:=by simpa using hg
  obtain⟨h1,h2,h3,h4,h5,h6⟩:=(Zam m c s).1 hg';obtain⟨M,rfl⟩:∃M:Nat,m=M:=⟨m.toNat,by omega⟩;obtain⟨C,rfl⟩:∃C:Nat,c=C:=⟨c.toNat,by omega⟩;obtain⟨S,rfl⟩:∃S:Nat,s=S:=⟨s.toNat,by omega⟩;by_cases hn:256<us.length
  ·rw[Zf hn]
   exact Zhc M C S v us w hg' hv hn
  ·rw[Ze hn]at h ⊢
   refine(Zjf M C S v us w hg' hv (by omega)).mono fun e w' ⟨hp,hb⟩=>⟨?_,hb⟩
   rcases hp with ⟨⟨u,hu,e1⟩,e2⟩|⟨e0,⟨u,hu,e1⟩,e2⟩|⟨e0,e1,-⟩
   ·rw[Zf (Zew.2 ⟨u,hu,e1⟩)]
    exact e2
   ·rw[Ze (fun h=>by obtain⟨x,hx,hy⟩:=Zew.1 h;exact hy (e0 x hx)),Zf (Zew.2 ⟨u,hu,e1⟩)]
    exact e2
   ·exfalso
    rw[Ze (fun h=>by obtain⟨x,hx,hy⟩:=Zew.1 h;exact hy (e0 x hx)),Ze (fun h=>by obtain⟨x,hx,hy⟩:=Zew.1 h;exact hy (e1 x hx))]at h;exact h rfl
open Go.RowKit
def layK(D:Nat->Sec)(us:List (Int×List UInt8)):Nat->Nat->Sec
 |0=>D
 |k+1=>fun b=>if (b:Int)=(us.getD k put0).1 then (us.getD k put0).2 else layK D us k b
def blkOf(M C:Nat)(V:Nat->Nat->Sec)(b:Nat):Sec:=V (membOf M C b) (rowOf M C b)
theorem Zld(ok:BatchOk M C S us)(hk:k<us.length):∃n:Nat,(us.getD k put0).1=n/\n<S*C*(M-1):=by
 rw[Zdv us k hk];exact Zh5 (ok.there _ (Zj hk)) ok.hg
theorem Zsq{M C S:Nat}{us:List (Int×List UInt8)}(ok:BatchOk M C S us)(D:Nat->Sec){b:Nat}(hb:b<S*C*(M-1)):∀k,k≤us.length->layK D us k b=(tabOf M C us k (rowOf M C b:Nat) (membOf M C b:Nat)).getD (D b)
 |0,_=>rfl
 |k+1,hk=>by
  have ih:=Zsq ok D hb k (by omega);obtain⟨n,hn,hlt⟩:=Zld ok (k:=k) (by omega);show(if (b:Int)=(us.getD k put0).1 then (us.getD k put0).2 else layK D us k b)=(tabSet (tabOf M C us k) (rowOf M C (us.getD k put0).1.toNat:Nat) (membOf M C (us.getD k put0).1.toNat:Nat) (us.getD k put0).2 (rowOf M C b:Nat) (membOf M C b:Nat)).getD (D b)
  unfold tabSet;by_cases e:b=n
  ·subst e
   rw[hn,Zf rfl,Int.toNat_natCast,Zf ⟨rfl,rfl⟩];rfl
  ·rw[hn,Ze (by omega),Int.toNat_natCast,Ze,ih]
   rintro ⟨e1,e2⟩;exact e (Zwc ok.hg hb hlt (by exact_mod_cast e1) (by exact_mod_cast e2))
theorem Zlg(h:Good R V)(ok:BatchOk R.M R.C R.S us)(hb:b<R.S*R.C*(R.M-1)):blkOf R.M R.C (vNext R V us) b=layK (blkOf R.M R.C V) us us.length b:=by
 have hl:=lies h.geo hb;have hnp:=Zrh h.geo hb;rw[Zsq ok _ hb _ (Za _)];show vNext R V us (membOf R.M R.C b) (rowOf R.M R.C b)=_
 unfold vNext;by_cases hh:hasRow R.M (tabAll R.M R.C us) (rowOf R.M R.C b)=true
 ·rw[Zf hh]
  have okp:=Zi7 h ok hl.row hh;unfold wantR;rw[Ze hnp];cases hg:tabOf R.M R.C us us.length (rowOf R.M R.C b:Nat) (membOf R.M R.C b:Nat)with
  |some d=>
   have hin:(⟨(membOf R.M R.C b:Nat),(rowOf R.M R.C b:Nat),d⟩:Pat)∈batPats R us (rowOf R.M R.C b):=by
    unfold batPats patsIn;refine List.mem_map.2 ⟨membOf R.M R.C b,Zbd.2 ⟨hl.memb,by show(tabOf R.M R.C us us.length _ _).isSome=true;rw[hg];rfl⟩,?_⟩;show(⟨_,_,(tabOf R.M R.C us us.length _ _).getD []⟩:Pat)=_
    rw[hg];rfl
   rw[Zex okp.pw hin rfl];rfl
  |none=>
   rw[Zfe]
   ·rfl
   ·cases hgi:givenIn (batPats R us (rowOf R.M R.C b)) ((membOf R.M R.C b:Nat):Int)with
    |false=>rfl
    |true=>
     unfold givenIn batPats patsIn at hgi;rw[List.any_eq_true]at hgi;obtain⟨p,hp,hpm⟩:=hgi;obtain⟨m,hm,rfl⟩:=List.mem_map.1 hp;have h1:=(Zbd.1 hm).2;have h2:m=membOf R.M R.C b:=by
      have:((m:Nat):Int)=((membOf R.M R.C b:Nat):Int):=by simpa using hpm
      exact_mod_cast this
     rw[h2]at h1;have h1':(tabOf R.M R.C us us.length (rowOf R.M R.C b:Nat) (membOf R.M R.C b:Nat)).isSome=true:=h1;rw[hg]at h1';cases h1'
 ·rw[Ze hh]
  cases hg:tabOf R.M R.C us us.length (rowOf R.M R.C b:Nat) (membOf R.M R.C b:Nat)with
  |some d=>exact absurd (Zmz hl.memb (by show(tabOf R.M R.C us us.length _ _).isSome=true;rw[hg];rfl)) hh
  |none=>rfl
theorem Zos{M C:Nat}{us:List (Int×List UInt8)}:∀{k:Nat},k≤us.length->∀{j:Nat},j<k->(tabOf M C us k (rowOf M C (us.getD j put0).1.toNat:Nat) (membOf M C (us.getD j put0).1.toNat:Nat)).isSome=true
 |0,_,j,hj=>by omega
 |k+1,hk,j,hj=>by
  show(tabSet (tabOf M C us k) (rowOf M C (us.getD k put0).1.toNat:Nat) (membOf M C (us.getD k put0).1.toNat:Nat) (us.getD k put0).2 _ _).isSome=true
  unfold tabSet;split
  ·rfl
  ·rename_i hne
   by_cases e:j=k
   ·subst e
    exact absurd ⟨rfl,rfl⟩ hne
   ·exact Zos (k:=k) (by omega) (by omega)
open Go.RowKit
structure Cost (R R':RS) (a0 a1 a2 b nx:Nat):Prop where
 c0:R'.s.cnt 0≤R.s.cnt 0+a0
 c1:R'.s.cnt 1≤R.s.cnt 1+a1
 c2:R'.s.cnt 2≤R.s.cnt 2+a2
 small:∀m,R.s.small m->R'.s.small (m+b)
 next:R'.next≤R.next+nx
 M:R'.M=R.M
 C:R'.C=R.C
 S:R'.S=R.S
 fr:R'.fr=R.fr
 size:R'.size=R.size
 lazy:R'.lazy=R.lazy
theorem BaySt.small.mono(h:s.small m)(hmn:m≤n):s.small n:=fun i hi x hx=>Zc (h i hi x hx) hmn
theorem Cost.refl(R:RS):Cost R R 0 0 0 0 0:=⟨by simp,by simp,by simp,fun _ h=>h,by simp,rfl,rfl,rfl,rfl,rfl,rfl⟩
theorem Cost.trans{R2:RS}(h:Cost R R1 a0 a1 a2 b nx)(k:Cost R1 R2 e0 e1 e2 f ny):Cost R R2 (a0+e0) (a1+e1) (a2+e2) (b+f) (nx+ny):=by
 obtain⟨h1,h2,h3,h4,h5,h6,h7,h8,h9,h10,h11⟩:=h;obtain⟨k1,k2,k3,k4,k5,k6,k7,k8,k9,k10,k11⟩:=k;refine⟨by omega,by omega,by omega,fun m hm=> ?_,by omega,k6.trans h6,k7.trans h7,k8.trans h8,k9.trans h9,k10.trans h10,k11.trans h11⟩;have:=k4 _ (h4 m hm);rwa [Nat.add_assoc]at this
theorem Cost.mono(h:Cost R R1 a0 a1 a2 b nx)(h0:a0≤e0)(h1:a1≤e1)(h2:a2≤e2)(h3:b≤f)(h4:nx≤ny):Cost R R1 e0 e1 e2 f ny:=by
 obtain⟨k1,k2,k3,k4,k5,k6,k7,k8,k9,k10,k11⟩:=h;exact⟨by omega,by omega,by omega,fun m hm=>(k4 m hm).mono (by omega),by omega,k6,k7,k8,k9,k10,k11⟩
section
variable {R R1:RS} {V:Nat->Nat->Sec}
theorem Good.cost_synced(h:Good R V):Cost R R.synced 0 0 1 0 0:=by
 have h1:=h.ready.synced_s;have h2:=h.ready.synced2;obtain⟨s',e⟩:=R.synced_eq;exact⟨by omega,by omega,by omega,h1.2,by rw[e];simp,by rw[e],by rw[e],by rw[e],by rw[e],by rw[e],by rw[e]⟩
theorem Good.synced_wait:R.synced.wait=R.wait:=by
 obtain⟨s',e⟩:=R.synced_eq;rw[e]
theorem Good.cost_placed(h:Good R V)(hp:PlacedR R R1):Cost R R1 0 R.wait.length 0 R.wait.length 0:=by
 obtain⟨-,h1,h2,h3,h4,s',e⟩:=hp.facts h.ready;exact⟨by omega,by omega,by omega,h4,by rw[e];simp,by rw[e],by rw[e],by rw[e],by rw[e],by rw[e],by rw[e]⟩
theorem Good.cost_dries(h:Good R V):Cost R {R with s:=R.dries R.M} 0 0 R.M 0 0:=by
 have hd:=Zel h.geo h.n h.fit R.M (Za _);have h0:=hd.c0;have h1:=hd.c1;have h2:=hd.c2;exact⟨by show(R.dries R.M).cnt 0≤_;omega,by show(R.dries R.M).cnt 1≤_;omega,h2,hd.small,Za _,rfl,rfl,rfl,rfl,rfl,rfl⟩
theorem Good.cost_reclaimed(h:Good R V):Cost R R.reclaimed 0 1 1 1 0:=by
 have hr:=Zd5 h.n h.fit;have h0:=hr.c0;have h1:=hr.c1;have h2:=hr.c2;exact⟨by omega,by omega,by omega,hr.small,Za _,rfl,rfl,rfl,rfl,rfl,rfl⟩
theorem Good.cost_empty(h:Good R V)(he:EmptyR R R1):Cost R R1 0 (R.wait.length+1) 20 (R.wait.length+1) 0:=by
 obtain⟨R2,hp,rfl⟩:=he;have h1:=h.cost_synced;have h2:=h.synced.cost_placed hp;rw[Good.synced_wait]at h2;have g2:=(h.synced.placed hp).1;have h3:=g2.cost_dries;have h4:=g2.dries.cost_reclaimed;have hM:=(Zbe g2.geo).2.1;exact(((h1.trans h2).trans h3).trans h4).mono (by omega) (by omega) (by omega) (by omega) (by omega)
theorem Good.cost_room(h:Good R V)(he:RoomR R n R1):Cost R R1 0 (R.wait.length+1) 20 (R.wait.length+1) 0:=by
 rcases he with ⟨-,rfl⟩|⟨-,he⟩
 ·exact(Cost.refl R1).mono (by omega) (by omega) (by omega) (by omega) (by omega)
 ·exact h.cost_empty he
theorem Good.room_wait(h:Good R V)(he:RoomR R n R1)(hn:2*n+1≤R.size):2*n+1≤R1.size-R1.used/\(R1.wait= []\/R1.wait=R.wait):=by
 rcases he with ⟨h1,rfl⟩|⟨-,he⟩
 ·exact⟨h1,.inr rfl⟩
 ·obtain⟨-,h2,h3,-⟩:=h.empty he
  have hs:=(h.cost_empty he).size;exact⟨by omega,.inl h2⟩
theorem Good.cost_ticks(h:Good R V)(c:Nat):Cost R {R with s:=R.s.ticks 0 c} c 0 0 0 0:=by
 refine⟨?_,?_,?_,fun m hm=>hm,Za _,rfl,rfl,rfl,rfl,rfl,rfl⟩
 ·show(R.s.ticks 0 c).cnt 0≤_
  rw[Zb7];omega
 ·show(R.s.ticks 0 c).cnt 1≤_
  rw[Zbo _ _ _ _ (by decide)];simp
 ·show(R.s.ticks 0 c).cnt 2≤_
  rw[Zbo _ _ _ _ (by decide)];simp
theorem Good.cost_logged(h:Good R V)(hp:Loggable ps):Cost R (R.logged ps) 0 (2*ps.length) 1 (2*ps.length) 0:=by
 obtain⟨-,h0,h1,h2,h3,-⟩:=h.logged hp;exact⟨by omega,by omega,by omega,h3,Za _,rfl,rfl,rfl,rfl,rfl,rfl⟩
theorem Zh3(h:Put1 R.s (R.sealedR cost sec ps).s R.M (2+((R.tail+R.used)%R.size+(cost-1))%R.size) sec):Cost R (R.sealedR cost sec ps) 0 1 0 1 1:=by
 have h0:=h.c0;have h1:=h.c1;have h2:=h.c2;exact⟨by omega,by omega,by omega,h.small,Za _,rfl,rfl,rfl,rfl,rfl,rfl⟩
theorem Good.end'(h:Good R V)(he:EndR R R1):Good R1 V/\(R1.lazy=true\/R1.wait= [])/\(R1.wait= []\/R1.wait=R.wait)/\R1.used=R.used/\(R.sealed=R1.sealed)/\(R.lazy=false->R1.sure=true):=by
 rcases he with ⟨h1,rfl⟩|⟨h1,he⟩
 ·exact⟨h,.inl h1,.inr rfl,rfl,rfl,fun e=>by rw[h1]at e;cases e⟩
 ·obtain⟨g,hw⟩:=h.synced.placed he
  obtain⟨s',e⟩:=R.synced_eq;obtain⟨-,-,-,-,-,s2,e2⟩:=he.facts h.synced.ready;refine⟨g,.inr hw,.inl hw,?_,?_,fun _=> ?_⟩
  ·rw[e2,e]
  ·rw[e2,e]
  ·rw[e2,e]
theorem Good.cost_end(h:Good R V)(he:EndR R R1):Cost R R1 0 R.wait.length 1 R.wait.length 0:=by
 rcases he with ⟨h1,rfl⟩|⟨h1,he⟩
 ·exact(Cost.refl R1).mono (by omega) (by omega) (by omega) (by omega) (by omega)
 ·have h1:=h.cost_synced
  have h2:=h.synced.cost_placed he;rw[Good.synced_wait]at h2;exact(h1.trans h2).mono (by omega) (by omega) (by omega) (by omega) (by omega)
end
def RS.fresh(R:RS):RS:={R with sealed:=false}
structure Batched (R:RS) (V:Nat->Nat->Sec) (us:List (Int×List UInt8)) (ps:List Pat) (R1 R4 R':RS) (sec:List UInt8):Prop where
 room:RoomR R.fresh (mostIn R.M (R.S*R.C) (tabAll R.M R.C us)) R1
 pats:ps.Perm (batAll R1 V us (batRows R1 us).length)
 ahead:PlacedR (({R1 with s:=R1.s.ticks 0 (batCnt R1 us (batRows R1 us).length)}:RS).logged ps) R4
 slen:sec.length=128
 fin:EndR (R4.sealedR (2*ps.length+1) sec ps) R'
theorem Good.fresh(h:Good R V):Good R.fresh V:=h.flags R.sure false R.lazy
theorem Zp7(V:Nat->Nat->Sec)(us:List (Int×List UInt8))(hM:R1.M=R.M)(hC:R1.C=R.C):vNext R1 V us=vNext R V us:=by
 funext m r;unfold vNext batPats;rw[hM,hC]
structure Base (M:Nat) (fr:Nat->Int) (s s':BaySt):Prop where
 sec0:∀m,m<M->s'.sec m 0=s.sec m 0
 gone:∀m,m<M->fr m=0->s'.pos (m*3)=s.pos (m*3)
 aside:∀q,q%3≠0->s'.pos q=s.pos q
theorem Base.refl(M:Nat)(fr:Nat->Int)(s:BaySt):Base M fr s s:=⟨fun _ _=>rfl,fun _ _ _=>rfl,fun _ _=>rfl⟩
theorem Base.trans{s1 s2:BaySt}(h:Base M fr s s1)(k:Base M fr s1 s2):Base M fr s s2:=⟨fun m hm=>(k.sec0 m hm).trans (h.sec0 m hm),fun m hm e=>(k.gone m hm e).trans (h.gone m hm e),fun q hq=>(k.aside q hq).trans (h.aside q hq)⟩
theorem Base.ofPos(h:∀q,q≠M*3->s'.pos q=s.pos q):Base M fr s s':=⟨fun m hm=>Zcn (h (m*3) (by omega)) 0,fun m hm _=>h _ (by omega),fun q hq=>h q (by omega)⟩
theorem Zrw(h:R.fr m=0)(r:Nat):R.dn m r=true:=by unfold RS.dn;rw[h];simp
theorem Znv(h:Good R V):Base R.M R.fr R.s R.synced.s:=by
 unfold RS.synced;split
 ·exact .refl _ _ _
 ·obtain⟨-,h2⟩:=Zbk h.fit R.M (by rw[h.n];omega) (.inl rfl)
  exact .ofPos h2.pos
theorem Zhz(h:PlacedR R R1):Base R.M R.fr R.s R1.s:=by
 obtain⟨s',rfl,L,-,-,hld⟩:=h.eq;refine⟨fun m hm=>hld.off m 0 fun k hk hu e=>by omega,fun m hm e=>hld.pos _ fun k hk hu e2=> ?_,fun q hq=>hld.pos q fun k hk hu e2=>by omega⟩;have e3:k.1.val=m:=by omega
 unfold RS.upAt at hu;rw[e3,Zrw e]at hu;cases hu
theorem Zqe(h:Good R V):Base R.M R.fr R.s (R.dries R.M):=by
 have hd:=Zel h.geo h.n h.fit R.M (Za _);refine⟨fun m hm=>hd.sec m 0 (fun _=>by omega),fun m hm e=>hd.pos _ fun k hk hdk e2=> ?_,fun q hq=>hd.pos q fun k hk hdk e2=>by omega⟩;have e3:k=m:=by omega
 rw[e3,Zrw e]at hdk;cases hdk
theorem Ziv(h:Good R V):Base R.M R.fr R.s R.reclaimed.s:=.ofPos (Zd5 h.n h.fit).pos
theorem Zgf(h:Good R V)(hp:PlacedR R.synced R1):Base R.M R.fr R.s R1.s:=by
 have c0:=h.cost_synced;have e1:=Zhz hp;rw[c0.M,c0.fr]at e1;exact(Znv h).trans e1
theorem Zp3(h:Good R V)(he:EmptyR R R1):Base R.M R.fr R.s R1.s:=by
 obtain⟨R2,hp,rfl⟩:=he;obtain⟨h2,-⟩:=h.synced.placed hp;have c1:=h.cost_synced.trans (h.synced.cost_placed hp);have e2:=Zqe h2;have e3:Base R2.M R2.fr (R2.dries R2.M) ({R2 with s:=R2.dries R2.M}:RS).reclaimed.s:=Ziv h2.dries;have e1:=Zgf h hp;have hM:=c1.M;have hF:=c1.fr;rw[<-hM,<-hF]at e1 ⊢;exact(e1.trans e2).trans e3
theorem Zt4(h:Good R V)(he:EndR R R1):Base R.M R.fr R.s R1.s:=by
 rcases he with ⟨-,rfl⟩|⟨-,hp⟩
 ·exact .refl _ _ _
 ·exact Zgf h hp
structure BatchedRes (R R':RS) (V V':Nat->Nat->Sec) (k:Nat):Prop where
 good:Good R' V'
 cost:Cost R R' (512*272) (R.wait.length+6*k+4) 24 (R.wait.length+6*k+4) 1
 wait:R'.wait.length≤2*k
 done:R'.lazy=true\/R'.wait= []
 base:Base R.M R.fr R.s R'.s
theorem Zed(ok:BatchOk R.M R.C R.S us)(hu:us≠ []):batRows R us≠ []:=by
 have h0:0<us.length:=List.length_pos_iff.2 hu;obtain⟨n,hn,hlt⟩:=Zld ok h0;have hl:=lies ok.hg hlt;have h1:=Zos (M:=R.M) (C:=R.C) (us:=us) (k:=us.length) (Za _) h0;rw[hn,Int.toNat_natCast]at h1;have h2:rowOf R.M R.C n∈batRows R us:=Zbd.2 ⟨hl.row,Zmz hl.memb h1⟩;intro e;rw[e]at h2;cases h2
theorem Batched.res{R4 R':RS}(h:Batched R V us ps R1 R4 R' sec)(hg:Good R V)(ok:BatchOk R.M R.C R.S us)(hu:us≠ [])(hfit:2*mostIn R.M (R.S*R.C) (tabAll R.M R.C us)+1≤R.size)(hnx:R.next≤1000000000000):BatchedRes R R' V (vNext R V us) us.length:=by
 have g0:=hg.fresh;have c1:=g0.cost_room h.room;have g1:=g0.room h.room;obtain⟨hr1,hw1⟩:=g0.room_wait h.room hfit;have hM:R1.M=R.M:=c1.M;have hC:R1.C=R.C:=c1.C;have hS:R1.S=R.S:=c1.S;have ok1:BatchOk R1.M R1.C R1.S us:=by rw[hM,hC,hS];exact ok
 have hne:batRows R1 us≠ []:=Zed ok1 hu;have hlg:=Zd7 g1 ok1 hne h.pats;have hpl:ps.length≤mostIn R.M (R.S*R.C) (tabAll R.M R.C us):=by
  rw[h.pats.length_eq];have:=Zck R1 V us (batRows R1 us).length;rw[hM,hC,hS]at this;exact this
 have hm2:=Zf8 R.M R.C (R.S*R.C) us us.length;have hm2':mostIn R.M (R.S*R.C) (tabAll R.M R.C us)≤2*us.length:=hm2;have hfew:=Zc2 (M:=R.M) (C:=R.C) (S:=R.S) ok.few;have c2:=g1.cost_ticks (batCnt R1 us (batRows R1 us).length);have g2:=g1.ticks (batCnt R1 us (batRows R1 us).length);have c3:=g2.cost_logged hlg;have g3:=(g2.logged hlg).1;have c4:=g3.cost_placed h.ahead;obtain⟨g4,hw4⟩:=g3.placed h.ahead;obtain⟨-,-,-,-,-,s4,e4⟩:=h.ahead.facts g3.ready;have hw3:(({R1 with s:=R1.s.ticks 0 (batCnt R1 us (batRows R1 us).length)}:RS).logged ps).wait=R1.wait:=rfl;have hsz4:R4.size=R1.size:=by rw[e4];rfl
 have hus4:R4.used=R1.used:=by rw[e4];rfl
 have hnx4:R4.next=R1.next:=by rw[e4];rfl
 have hM4:R4.M=R1.M:=by rw[e4];rfl
 have hC4:R4.C=R1.C:=by rw[e4];rfl
 have hS4:R4.S=R1.S:=by rw[e4];rfl
 have hfr4:R4.fr=R1.fr:=by rw[e4];rfl
 have hn1:R1.next≤R.next:=c1.next;have hv:vNext R1 V us=vNext R V us:=Zp7 V us hM hC;obtain⟨g5,hp5⟩:=g4.seal (V':=vNext R V us) hw4 h.slen (cost:=2*ps.length+1) (ps:=ps) (by rw[hsz4,hus4];omega) (by rw[hnx4];omega)
  (fun m r hm hr=>by rw[<-hv];rw[hM4]at hm;rw[hS4,hC4]at hr;exact Zfp g1 ok1 hm hr)
  (fun r hr i hi=>by rw[<-hv];rw[hM4];rw[hS4,hC4]at hr;exact Zf7 g1 ok1 hr i hi)
  (fun p hp=>by rw[hM4,hS4,hC4];exact(Zcs g1 ok1 (h.pats.mem_iff.1 hp)).1)
  (fun p hp=>by rw[<-hv];exact(Zcs g1 ok1 (h.pats.mem_iff.1 hp)).2)
  (fun m r hm hr hw hd=>by
   rw[<-hv]
   rw[hM4]at hm
   rw[hS4,hC4]at hr
   refine Zet g1 ok1 h.pats hm hr hw ?_
   unfold RS.dn at hd ⊢
   rw[hfr4]at hd
   exact hd)
  (by omega)
 have c5:=Zh3 hp5;obtain⟨g6,h61,h62,-,-,-⟩:=g5.end' h.fin;have c6:=g5.cost_end h.fin;have hw5:(R4.sealedR (2*ps.length+1) sec ps).wait=ps:=rfl;rw[hw5]at c6 h62;rw[hw3]at c4;have hb:=Zd0 R1 us (batRows R1 us).length;have hbf:=Zcy (R:=R1) ok.few;have hM16:=(Zbe g1.geo).2.1;have hb1:R1.M*(R1.M+1)≤16*17:=Nat.mul_le_mul hM16 (by omega);have hb2:(batRows R1 us).length*(R1.M*(R1.M+1))≤512*272:=Nat.mul_le_mul hbf hb1;have hw1':R1.wait.length≤R.wait.length:=by
  rcases hw1 with e|e
  ·rw[e];exact Nat.zero_le _
  ·rw[e];exact Za _
 have hcw:R1.wait.length+(R.wait.length+1)≤R.wait.length+1\/True:=.inr trivial
 have hone:Cost R R1 0 (R.wait.length+1-R1.wait.length) 20 (R.wait.length+1-R1.wait.length) 0:=by
  rcases h.room with ⟨-,e⟩|⟨-,e⟩
  ·rw[e]
   exact⟨by show R.s.cnt 0≤_;omega,by show R.s.cnt 1≤_;omega,by show R.s.cnt 2≤_;omega,fun m hm=>hm.mono (by omega),by show R.next≤_;omega,rfl,rfl,rfl,rfl,rfl,rfl⟩
  ·have e2:=(g0.empty e).2.1
   rw[e2];have:=g0.cost_empty e;exact⟨this.c0,this.c1,this.c2,this.small,this.next,this.M,this.C,this.S,this.fr,this.size,this.lazy⟩
 refine⟨g6,((((hone.trans c2).trans c3).trans c4).trans c5).trans c6|>.mono (by omega) (by omega) (by omega) (by omega) (by omega),?_,h61,?_⟩
 ·rcases h62 with e|e
  ·rw[e];exact Nat.zero_le _
  ·rw[e];omega
 ·have b1:Base R.M R.fr R.s R1.s:=by
   rcases h.room with ⟨-,e⟩|⟨-,e⟩
   ·rw[e];exact .refl _ _ _
   ·have:=Zp3 g0 e;exact this
  have b3:Base R1.M R1.fr R1.s (({R1 with s:=R1.s.ticks 0 (batCnt R1 us (batRows R1 us).length)}:RS).logged ps).s:=.ofPos (fun q hq=>((g2.logged hlg).2.pos q hq).trans rfl);have b4:=Zhz h.ahead;change Base R1.M R1.fr _ R4.s at b4;have b5:Base R4.M R4.fr R4.s (R4.sealedR (2*ps.length+1) sec ps).s:=.ofPos hp5.pos;have b6:=Zt4 g5 h.fin;change Base R4.M R4.fr _ R'.s at b6;have hfr1:R1.fr=R.fr:=c1.fr;rw[hM4,hfr4]at b5 b6;rw[hM,hfr1]at b3 b4 b5 b6;exact(((b1.trans b3).trans b4).trans b5).trans b6
end Go.Proofs.YtmemlkmnhcealaaGreat
