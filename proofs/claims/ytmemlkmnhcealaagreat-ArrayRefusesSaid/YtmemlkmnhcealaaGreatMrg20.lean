
/- Several texts in one: PlwD, RwD. -/
import Derived.Test.YtmemlkmnhcealaaGreatPlnP
set_option linter.unusedVariables false
set_option maxRecDepth 100000
set_option maxHeartbeats 8000000
namespace Go.Proofs.YtmemlkmnhcealaaGreat
open Value renaming int→O
open IntKind renaming i64→Z
open Ending renaming returned→Zu
open Obj renaming cells→Zv
open Go.Proofs.Tryz renaming prog→Zw
open Go.RowKit
open Lib(hid)
variable {A:Adr} {W:Int->Prop} {us:List (Int×List UInt8)} {X:List OP} {d:List UInt8} {C M R S b m r:Nat} {T:Nat->Nat} {V:Nat->Nat->Sec} {lg:Option Nat} {vw:Value} {w:World}
theorem Zh5{b:Int}(h:thereIs M C S b)(hg:geoIs M C S=true):∃n:Nat,b=n/\n<S*C*(M-1):=by
 obtain⟨h1,-⟩:=(Zam M C S).1 hg;obtain⟨h0,hb⟩:=h;obtain⟨n,rfl⟩:=Int.eq_ofNat_of_zero_le h0;refine⟨n,rfl,?_⟩;have e1:((M-1:Nat):Int)=(M:Int)-1:=by omega
 rw[<-e1]at hb;exact_mod_cast hb
structure Lies (M C S b:Nat):Prop where
 stripe:stripeOf M C b<S
 row:rowOf M C b<S*C
 memb:membOf M C b<M
 rowC:rowOf M C b/C=stripeOf M C b
 rowMod:rowOf M C b%C=b%((M-1)*C)%C
 mem:membOf M C b=(parOf M C (rowOf M C b)+1+b%((M-1)*C)/C)%M
 few:b%((M-1)*C)/C<M-1
 whole:stripeOf M C b*((M-1)*C)+(b%((M-1)*C)/C*C+b%((M-1)*C)%C)=b
theorem lies(hg:geoIs M C S=true)(hb:b<S*C*(M-1)):Lies M C S b:=by
 obtain⟨h1,h2,h3,h4,h5,h6⟩:=(Zam M C S).1 hg;have hC:0<C:=by omega
 have hM:0<M-1:=by omega
 have hE:0<(M-1)*C:=Nat.mul_pos hM hC;have hst:stripeOf M C b<S:=by
  unfold stripeOf;rw[Nat.div_lt_iff_lt_mul hE,Nat.mul_comm (M-1) C,<-Nat.mul_assoc];exact hb
 have hi:b%((M-1)*C)<(M-1)*C:=Nat.mod_lt _ hE;have hm:b%((M-1)*C)%C<C:=Nat.mod_lt _ hC;have hrc:rowOf M C b/C=stripeOf M C b:=by
  unfold rowOf;rw[Nat.mul_comm,Nat.mul_add_div hC,Nat.div_eq_of_lt hm,Nat.add_zero]
 have hrm:rowOf M C b%C=b%((M-1)*C)%C:=by
  unfold rowOf;rw[Nat.mul_comm,Nat.mul_add_mod,Nat.mod_eq_of_lt hm]
 refine⟨hst,?_,?_,hrc,hrm,?_,?_,?_⟩
 ·rw[<-Nat.div_lt_iff_lt_mul hC,hrc]
  exact hst
 ·unfold membOf memOf
  exact Nat.mod_lt _ (by omega)
 ·unfold parOf
  rw[hrc];rfl
 ·rw[Nat.div_lt_iff_lt_mul hC]
  exact hi
 ·have e1:b%((M-1)*C)/C*C+b%((M-1)*C)%C=b%((M-1)*C):=by
   rw[Nat.mul_comm];exact Nat.div_add_mod _ _
  rw[e1];unfold stripeOf;rw[Nat.mul_comm];exact Nat.div_add_mod _ _
def behind(M p m:Nat):Nat:=(m+2*M-p-1)%M
theorem Zs3{p i:Nat}(hp:p<M)(hi:i<M-1):behind M p ((p+1+i)%M)=i:=by
 unfold behind;by_cases h:p+1+i<M
 ·rw[Nat.mod_eq_of_lt h,show p+1+i+2*M-p-1=i+M*2 by omega,Nat.add_mul_mod_self_left,Nat.mod_eq_of_lt (by omega)]
 ·rw[show(p+1+i)%M=p+1+i-M by rw[Nat.mod_eq_sub_mod (by omega),Nat.mod_eq_of_lt (by omega)],show p+1+i-M+2*M-p-1=i+M by omega,Nat.add_mod_right,Nat.mod_eq_of_lt (by omega)]
def blockAt(M C m r:Nat):Nat:=r/C*(M-1)*C+behind M (parOf M C r) m*C+r%C
theorem Zoj(hg:geoIs M C S=true)(hb:b<S*C*(M-1)):blockAt M C (membOf M C b) (rowOf M C b)=b:=by
 have L:=lies hg hb;obtain⟨h1,h2,h3,h4,h5,h6⟩:=(Zam M C S).1 hg;have hp:parOf M C (rowOf M C b)<M:=by unfold parOf;omega
 unfold blockAt;rw[L.mem,Zs3 hp L.few,L.rowC,L.rowMod,Nat.mul_assoc,Nat.add_assoc];exact L.whole
theorem Zrh(hg:geoIs M C S=true)(hb:b<S*C*(M-1)):membOf M C b≠parOf M C (rowOf M C b):=by
 have L:=lies hg hb;obtain⟨h1,h2,h3,h4,h5,h6⟩:=(Zam M C S).1 hg;have hp:parOf M C (rowOf M C b)<M:=by unfold parOf;omega
 rw[L.mem];have hf:=L.few;generalize parOf M C (rowOf M C b)=p at*;generalize b%((M-1)*C)/C=i at*;intro e;by_cases h:p+1+i<M
 ·rw[Nat.mod_eq_of_lt h]at e;omega
 ·rw[show(p+1+i)%M=p+1+i-M by rw[Nat.mod_eq_sub_mod (by omega),Nat.mod_eq_of_lt (by omega)]]at e
  omega
theorem Zwc{c:Nat}(hg:geoIs M C S=true)(hb:b<S*C*(M-1))(hc:c<S*C*(M-1))(hr:rowOf M C b=rowOf M C c)(hm:membOf M C b=membOf M C c):b=c:=by
 rw[<-Zoj hg hb,<-Zoj hg hc,hr,hm]
theorem Zfu:∀{l m:List Int},l.Pairwise (· < ·)->m.Pairwise (· < ·)->(∀x,x∈l↔x∈m)->l=m
 | [],[],_,_,_=>rfl
 | [],b::m,_,_,h=>by have:=(h b).2 List.mem_cons_self;cases this
 |a::l,[],_,_,h=>by have:=(h a).1 List.mem_cons_self;cases this
 |a::l,b::m,h1,h2,h=>by
  rw[List.pairwise_cons]at h1 h2;have hab:a=b:=by
   rcases List.mem_cons.1 ((h a).1 List.mem_cons_self)with e|e
   ·exact e
   ·rcases List.mem_cons.1 ((h b).2 List.mem_cons_self)with e'|e'
    ·exact e'.symm
    ·have:=h2.1 a e
     have:=h1.1 b e';omega
  subst hab;rw[Zfu h1.2 h2.2 fun x=> ?_];constructor
  ·intro hx
   rcases List.mem_cons.1 ((h x).1 (List.mem_cons_of_mem _ hx))with e|e
   ·subst e;have:=h1.1 x hx;omega
   ·exact e
  ·intro hx
   rcases List.mem_cons.1 ((h x).2 (List.mem_cons_of_mem _ hx))with e|e
   ·subst e;have:=h2.1 x hx;omega
   ·exact e
theorem Zj3{M C:Nat}{us:List (Int×List UInt8)}:∀{k:Nat},k≤us.length->∀{r m:Int} {d:List UInt8},tabOf M C us k r m=some d->∃j,j<k/\r=((rowOf M C (us.getD j put0).1.toNat:Nat):Int)/\m=((membOf M C (us.getD j put0).1.toNat:Nat):Int)/\d=(us.getD j put0).2
 |0,_,r,m,d,h=>by cases h
 |k+1,hk,r,m,d,h=>by
  have h':tabSet (tabOf M C us k) (rowOf M C (us.getD k put0).1.toNat:Nat) (membOf M C (us.getD k put0).1.toNat:Nat) (us.getD k put0).2 r m=some d:=h;unfold tabSet at h';split at h'
  ·rename_i hh
   simp only [Zg]at h';exact⟨k,by omega,hh.1,hh.2,h'.symm⟩
  ·obtain⟨j,h1,h2⟩:=Zj3 (k:=k) (by omega) h'
   exact⟨j,by omega,h2⟩
def hasRow(M:Nat)(G:Tab)(r:Nat):Bool:=(List.range M).any fun m=>(G (r:Int) (m:Int)).isSome
def rowsIn(M R:Nat)(G:Tab):List Nat:=whichTo (hasRow M G) R
def membsIn(M:Nat)(G:Tab)(r:Nat):List Nat:=whichTo (fun m=>(G (r:Int) (m:Int)).isSome) M
def patsIn(M:Nat)(G:Tab)(r:Nat):List Pat:=(membsIn M G r).map fun m:Nat=>(⟨(m:Int),(r:Int),(G (r:Int) (m:Int)).getD []⟩:Pat)
def mostIn(M R:Nat)(G:Tab):Nat:=((rowsIn M R G).map fun r=>(membsIn M G r).length).sum+(rowsIn M R G).length
def TabIn(M R:Nat)(G:Tab):Prop:=∀r m d,G r m=some d->∃r' m':Nat,r=(r':Int)/\m=(m':Int)/\r'<R/\m'<M
theorem Zhs{l:List Nat}(h:l.Pairwise (· < ·)):(l.map fun x:Nat=>(x:Int)).Pairwise (· < ·):=by
 rw[List.pairwise_map];exact h.imp fun {a b} h=>by
  show(a:Int)<(b:Int)
  omega
theorem Zur{G:Tab}(hG:TabIn M R G){rs:List Int}(hW:∀n:Nat,n<R->W n)(h1:rs.Pairwise (· < ·))(h2:∀r,r∈rs↔(W r/\∃m d,G r m=some d)):rs=(rowsIn M R G).map fun x:Nat=>(x:Int):=by
 refine Zfu h1 (Zhs (Zj8 _ _)) fun r=> ?_
 rw[h2 r,List.mem_map];constructor
 ·rintro ⟨-,m,d,h⟩
  obtain⟨r',m',rfl,rfl,h3,h4⟩:=hG r m d h;refine⟨r',Zbd.2 ⟨h3,?_⟩,rfl⟩;unfold hasRow;exact List.any_eq_true.2 ⟨m',by simpa using h4,by rw[h];rfl⟩
 ·rintro ⟨r',h,rfl⟩
  obtain⟨h3,h4⟩:=Zbd.1 h;unfold hasRow at h4;obtain⟨m,-,h5⟩:=List.any_eq_true.1 h4;obtain⟨d,h6⟩:=Option.isSome_iff_exists.1 h5;exact⟨hW r' h3,(m:Int),d,h6⟩
theorem Zss{G:Tab}(hG:TabIn M R G){ms:List Int}(hW:∀n:Nat,n<M->W n)(h1:ms.Pairwise (· < ·))(h2:∀m,m∈ms↔(W m/\(G (r:Int) m).isSome=true)):ms=(membsIn M G r).map fun x:Nat=>(x:Int):=by
 refine Zfu h1 (Zhs (Zj8 _ _)) fun m=> ?_
 rw[h2 m,List.mem_map];constructor
 ·rintro ⟨-,h⟩
  obtain⟨d,h6⟩:=Option.isSome_iff_exists.1 h;obtain⟨r',m',h7,rfl,h3,h4⟩:=hG (r:Int) m d h6;exact⟨m',Zbd.2 ⟨h4,h⟩,rfl⟩
 ·rintro ⟨m',h,rfl⟩
  obtain⟨h3,h4⟩:=Zbd.1 h;exact⟨hW m' h3,h4⟩
theorem Zxa(hg:geoIs M C S=true)(h:∀u∈us,thereIs M C S u.1){k:Nat}(hk:k≤us.length):TabIn M (S*C) (tabOf M C us k):=fun r m d e=>by
 obtain⟨j,h1,h2,h3,-⟩:=Zj3 hk e;have hj:j<us.length:=by omega
 have hu:us.getD j put0∈us:=by
  rw[Zi,Zh hj];exact Zj hj
 obtain⟨n,hn,hn2⟩:=Zh5 (h _ hu) hg;rw[hn]at h2 h3;have L:=lies hg hn2;exact⟨_,_,h2,h3,by simpa using L.row,by simpa using L.memb⟩
theorem Ze9{f g:Nat->Nat}:∀{n:Nat},(∀i,i<n->f i≤g i)->nsum f n≤nsum g n
 |0,_=>Za _
 |n+1,h=>by
  show nsum f n+f n≤nsum g n+g n
  have:=Ze9 (f:=f) (g:=g) (n:=n) (fun i hi=>h i (by omega));have:=h n (by omega);omega
theorem Zd1:∀n,nsum (fun _=>0) n=0
 |0=>rfl
 |n+1=>by show nsum (fun _=>0) n+0=0;rw[Zd1 n]
theorem Zlf(q:Nat->Bool)(f:Nat->Nat):∀n,((whichTo q n).map f).sum=nsum (fun m=>if q m=true then f m else 0) n
 |0=>rfl
 |n+1=>by
  rw[Zb3];show _=nsum (fun m=>if q m=true then f m else 0) n+(if q n=true then f n else 0)
  rw[<-Zlf q f n];split
  ·rw[List.map_append,List.sum_append]
   simp
  ·simp
def cellIn(G:Tab)(r m:Nat):Nat:=if (G (r:Int) (m:Int)).isSome=true then 1 else 0
def cellsIn(M R:Nat)(G:Tab):Nat:=nsum (fun r=>nsum (fun m=>cellIn G r m) M) R
def rowIn(M:Nat)(G:Tab)(r:Nat):Nat:=if hasRow M G r=true then 1 else 0
theorem Zro(M R:Nat)(G:Tab):((rowsIn M R G).map fun r=>(membsIn M G r).length).sum=cellsIn M R G:=by
 unfold rowsIn cellsIn;rw[Zlf];refine Zcm fun r _=> ?_
 cases h:hasRow M G r
 ·rw[Ze (by simp)]
  have e:∀m,m<M->cellIn G r m=0:=fun m hm=>by
   unfold hasRow at h;rw[List.any_eq_false]at h;unfold cellIn;exact Ze (h m (by simpa using hm))
  rw[Zcm e,Zd1]
 ·rw[Zf rfl]
  unfold membsIn;rw[Ze0];rfl
theorem Zms(M R:Nat)(G:Tab):mostIn M R G=cellsIn M R G+nsum (rowIn M G) R:=by
 unfold mostIn;rw[Zro];congr 1;unfold rowsIn;rw[Ze0];rfl
theorem Zmz{G:Tab}(hm:m<M)(h:(G (r:Int) (m:Int)).isSome=true):hasRow M G r=true:=by
 unfold hasRow;exact List.any_eq_true.2 ⟨m,by simpa using hm,h⟩
theorem Zmt{G:Tab}(h:hasRow M G r=true):∃m,m<M/\(G (r:Int) (m:Int)).isSome=true:=by
 unfold hasRow at h;obtain⟨m,h1,h2⟩:=List.any_eq_true.1 h;exact⟨m,by simpa using h1,h2⟩
theorem Zga{G:Tab}{r' m':Nat}(h:(tabSet G (r:Int) (m:Int) d (r':Int) (m':Int)).isSome=true):(r'=r/\m'=m)\/(G (r':Int) (m':Int)).isSome=true:=by
 unfold tabSet at h;split at h
 ·rename_i e
  exact .inl ⟨by omega,by omega⟩
 ·exact .inr h
theorem Zua{G:Tab}:mostIn M R (tabSet G (r:Int) (m:Int) d)≤mostIn M R G+2:=by
 rw[Zms,Zms];have h1:cellsIn M R (tabSet G (r:Int) (m:Int) d)≤cellsIn M R G+1:=by
  unfold cellsIn;have e:∀r',r'<R->nsum (fun m'=>cellIn (tabSet G (r:Int) (m:Int) d) r' m') M≤nsum (fun m'=>cellIn G r' m') M+(if r'=r then 1 else 0):=fun r' _=>by
   refine Zc (Ze9 (g:=fun m'=>cellIn G r' m'+(if m'=m then (if r'=r then 1 else 0)else 0)) fun m' _=> ?_) ?_
   ·unfold cellIn
    by_cases h1:(tabSet G (r:Int) (m:Int) d (r':Int) (m':Int)).isSome=true
    ·rw[Zf h1]
     rcases Zga h1 with ⟨e1,e2⟩|e
     ·rw[Zf e2,Zf e1];omega
     ·rw[Zf e];omega
    ·rw[Ze h1];exact Nat.zero_le _
   ·rw[Zdu,Zc3]
    refine Nat.add_le_add_left ?_ _;split
    ·exact Za _
    ·exact Nat.zero_le _
  refine Zc (Ze9 e) ?_;rw[Zdu,Zc3];split<;>omega
 have h2:nsum (rowIn M (tabSet G (r:Int) (m:Int) d)) R≤nsum (rowIn M G) R+1:=by
  refine Zc (Ze9 (g:=fun r'=>rowIn M G r'+(if r'=r then 1 else 0)) fun r' _=> ?_) ?_
  ·unfold rowIn
   by_cases h1:hasRow M (tabSet G (r:Int) (m:Int) d) r'=true
   ·rw[Zf h1]
    obtain⟨m',h2,h3⟩:=Zmt h1;rcases Zga h3 with ⟨e1,e2⟩|e
    ·rw[Zf e1];omega
    ·rw[Zf (Zmz h2 e)];omega
   ·rw[Ze h1];exact Nat.zero_le _
  ·rw[Zdu,Zc3]
   split<;>omega
 omega
theorem Zub(M R:Nat):mostIn M R (fun _ _=>none)=0:=by
 rw[Zms];have e1:cellsIn M R (fun _ _=>none)=0:=by
  unfold cellsIn;have:∀r,r<R->nsum (fun m=>cellIn (fun _ _=>none) r m) M=0:=fun r _=>Zd1 M
  rw[Zcm this,Zd1]
 have e2:nsum (rowIn M (fun _ _=>none)) R=0:=by
  have:∀r,r<R->rowIn M (fun _ _=>none) r=0:=fun r _=>by
   unfold rowIn hasRow;rw[Ze];simp
  rw[Zcm this,Zd1]
 rw[e1,e2]
theorem Zf8(M C R:Nat)(us:List (Int×List UInt8)):∀k,mostIn M R (tabOf M C us k)≤2*k
 |0=>by rw[show tabOf M C us 0=fun _ _=>none from rfl,Zub];exact Za _
 |k+1=>by
  have:=Zf8 M C R us k;have h2:mostIn M R (tabOf M C us (k+1))≤mostIn M R (tabOf M C us k)+2:=Zua;omega
theorem Zr0(hg:geoIs M C S=true)(h:∀u∈us,thereIs M C S u.1)(hl:∀u∈us,u.2.length=128){d:Nat->Bool}(hd:Lone d M)(hr:r<S*C)(hh:hasRow M (tabOf M C us us.length) r=true):
  PlanOk M C S d (patsIn M (tabOf M C us us.length) r) r:=by
 have hmem:∀{p:Pat},p∈patsIn M (tabOf M C us us.length) r->∃m:Nat,m<M/\p.m=(m:Int)/\p.r=(r:Int)/\p.d.length=128/\m≠parOf M C r:=fun {p} hp=>by
  obtain⟨m,hm,rfl⟩:=List.mem_map.1 hp;obtain⟨h1,h2⟩:=Zbd.1 hm;obtain⟨x,hx⟩:=Option.isSome_iff_exists.1 h2;obtain⟨j,h3,h4,h5,h6⟩:=Zj3 (Za _) hx;have hj:us.getD j put0∈us:=by
   rw[Zi,Zh h3];exact Zj h3
  obtain⟨n,hn,hn2⟩:=Zh5 (h _ hj) hg;rw[hn]at h4 h5;refine⟨m,h1,rfl,rfl,?_,?_⟩
  ·show((tabOf M C us us.length (r:Int) (m:Int)).getD []).length=128
   rw[hx,Option.getD_some,h6];exact hl _ hj
  ·have e1:m=membOf M C n:=by simpa using Int.ofNat_inj.1 h5
   have e2:r=rowOf M C n:=by simpa using Int.ofNat_inj.1 h4
   rw[e1,e2];exact Zrh hg hn2
 have hpw:(patsIn M (tabOf M C us us.length) r).Pairwise fun p q=>p.m<q.m:=by
  unfold patsIn;rw[List.pairwise_map];exact(Zj8 _ _).imp fun {a b} h=>by
   show((a:Nat):Int)<((b:Nat):Int)
   omega
 refine⟨hg,hr,?_,fun p hp=> ?_,fun p hp=> ?_,fun p hp=> ?_,fun p hp=> ?_,fun i j hi hj hij=>List.pairwise_iff_getElem.1 hpw i j hi hj hij,fun p hp=> ?_,hd⟩
 ·obtain⟨m,h1,h2⟩:=Zmt hh
  unfold patsIn;rw[Zp];exact List.length_pos_of_mem (Zbd.2 ⟨h1,h2⟩:m∈membsIn M _ r)
 all_goals obtain⟨m,h1,h2,h3,h4,h5⟩:=hmem hp
 ·exact h3
 ·omega
 ·omega
 ·omega
 ·exact h4
open Go.RowKit
def RS.szs(R:RS):Nat->Nat:=fun j=>if j<R.M then 1+R.S*R.C else 2+R.size
def RS.G(R:RS):Nat->Prop:=fun j=>j=R.M\/(j<R.M/\∃r,r<R.S*R.C/\R.dn j r=false)
structure Sound (R:RS) (V:Nat->Nat->Sec):Prop where
 geo:geoIs R.M R.C R.S=true
 n:R.s.n=R.M+1
 fit:Fit R.s R.G R.szs
 len:∀m r,m<R.M->r<R.S*R.C->(V m r).length=128
 even:∀r,r<R.S*R.C->∀i,i<128->xsum (fun m=>(V m r).getD i 0) R.M=0
 lone:∀r,r<R.S*R.C->Lone (fun m=>R.dn m r) R.M
 wait:∀m r,m<R.M->r<R.S*R.C->∀d,waitAt R.wait m r=some d->d=V m r
 sec:∀m r,m<R.M->r<R.S*R.C->waitAt R.wait m r=none->R.dn m r=false->R.s.sec m (1+r)=V m r
 wfew:R.wait.length≤90000
 sz1:5≤R.size
 sz2:R.size≤2048
 tl:R.tail<R.size
 us:R.used≤R.size
 ep:R.ep≤4611686018427387904
 nx:1≤R.next
theorem Sound.ticks{R:RS}(h:Sound R V)(c:Nat):Sound {R with s:=R.s.ticks 0 c} V:=
 ⟨h.geo,h.n,h.fit.ticks 0 c,h.len,h.even,h.lone,h.wait,h.sec,h.wfew,h.sz1,h.sz2,h.tl,h.us,h.ep,h.nx⟩
def SecPost(w:World)(T:Nat->Nat)(A:Adr)(R:RS)(lg:Option Nat)(vw:Value)(X:List OP)(d:Sec)(c:Nat)(e:Ending)(w':World):Prop:=
 ∃v,e=Zu (.tuple #[v,.agg #[O Z 0,.int .u16 0]])/\w'.ownsRow w.heap.size 5 1 v 128 (ucells d)/\RwIn w' T A {R with s:=R.s.ticks 0 c} lg vw X/\Chg (fun k=>T k≠0) w w'
theorem Zg0(h:geoIs M C S=true):geoRows M C S=((S*C:Nat):Int):=by
 unfold geoRows;rw[Zf h];push_cast;rfl
theorem Zeq{R:RS}(h:RwIn w T A R lg vw X)(hs:Sound R V)(m r:Nat)(hm:m<R.M)(hr:r<R.S*R.C)(hw:waitAt R.wait m r=none)(hd:R.dn m r=false)(hcnt:R.s.cnt 0≤999999000000)(hsm:R.s.small 1000000):
  Calls Zw 68 #[.pointer (some ⟨A.q,0,none⟩),O Z m,O Z r] w (SecPost w T A R lg vw X (V m r) 1):=by
 have hb0:Below w.heap.size w (w.alloc (Zv #[O Z 0,.int .u16 0] 76)):=(Zb _ _).alloc (Za _) _;have hXf:X.length≤100000:=by
  have:=hs.wfew;rw[<-h.wtM,Zp]at this;omega
 have htb:T w.heap.size=0:=Zae h.bay _ (Za _);have h0:=h.below hb0;have HSS:Hid (∀W,Below (w.alloc (Zv #[O Z 0,.int .u16 0] 76)).heap.size (w.alloc (Zv #[O Z 0,.int .u16 0] 76)) W->W.cell? ⟨A.q,0,none⟩=some (.pointer (some ⟨A.b,0,none⟩))/\W.cell? ⟨A.q,1,none⟩=some (O Z R.M)/\W.cell? ⟨A.q,2,none⟩=some (O Z R.C)/\W.cell? ⟨A.q,3,none⟩=some (O Z R.S)):=fun W hb=>⟨(h0.below hb).rw.cell 0,(h0.below hb).rw.cell 1,(h0.below hb).rw.cell 2,(h0.below hb).rw.cell 3⟩
 have HIS:Hid (∀W,Below (w.alloc (Zv #[O Z 0,.int .u16 0] 76)).heap.size (w.alloc (Zv #[O Z 0,.int .u16 0] 76)) W->Calls Zw 112 #[.pointer (some ⟨A.q,0,none⟩),O Z m] W fun e w'=>e=Zu (.bool true)/\w'=W):=fun W hb=>(Zf1 (m:Int) W (h0.below hb).rw).mono (by
  rintro e w' ⟨rfl,rfl⟩
  refine⟨?_,rfl⟩
  have:(decide ((0:Int)≤m)&&decide ((m:Int)<(R.M:Int)))=true:=by simp;omega
  rw[this])
 have HGR:Hid (∀W,Below (w.alloc (Zv #[O Z 0,.int .u16 0] 76)).heap.size (w.alloc (Zv #[O Z 0,.int .u16 0] 76)) W->Calls Zw 40 #[.agg #[O Z R.M,O Z R.C,O Z R.S]] W fun e w'=>e=Zu (O Z (R.S*R.C:Nat))/\Below (w.alloc (Zv #[O Z 0,.int .u16 0] 76)).heap.size (w.alloc (Zv #[O Z 0,.int .u16 0] 76)) w'):=fun W hb=>(Zfc R.M R.C R.S W).mono (by
  rintro e w' ⟨rfl,hb'⟩
  exact⟨by rw[Zg0 hs.geo],hb.trans (hb'.mono hb.size)⟩)
 have HWA:Hid (∀W,Below (w.alloc (Zv #[O Z 0,.int .u16 0] 76)).heap.size (w.alloc (Zv #[O Z 0,.int .u16 0] 76)) W->Calls Zw 113 #[.pointer (some ⟨A.q,0,none⟩),O Z m,O Z r] W fun e w'=>e=Zu (.tuple #[.slice none 0 0,.bool false])/\Below (w.alloc (Zv #[O Z 0,.int .u16 0] 76)).heap.size (w.alloc (Zv #[O Z 0,.int .u16 0] 76)) w'):=fun W hb=>(Zc8 (h0.below hb) hXf m r).mono (by
  intro e w' hp
  rcases hp with ⟨-,rfl,hb'⟩|⟨d,v,hd',-⟩
  ·exact⟨rfl,hb.trans (hb'.mono hb.size)⟩
  ·rw[hw]at hd';cases hd')
 have HDN:Hid (∀W,Below (w.alloc (Zv #[O Z 0,.int .u16 0] 76)).heap.size (w.alloc (Zv #[O Z 0,.int .u16 0] 76)) W->Calls Zw 114 #[.pointer (some ⟨A.q,0,none⟩),O Z m,O Z r] W fun e w'=>e=Zu (.bool false)/\w'=W):=fun W hb=>(Zct m r W (h0.below hb).rw (h0.below hb).fr hm).mono (by
  rintro e w' ⟨rfl,rfl⟩
  rw[hd]
  exact⟨rfl,rfl⟩)
 have hG:R.G m:=.inr ⟨hm,r,hr,hd⟩;have hsz:1+r<R.szs m:=by unfold RS.szs;rw[Zf hm];omega
 have HRD:Hid (∀W,Below (w.alloc (Zv #[O Z 0,.int .u16 0] 76)).heap.size (w.alloc (Zv #[O Z 0,.int .u16 0] 76)) W->Calls Zw 116 #[.pointer (some ⟨A.b,0,none⟩),O Z m,O Z (1+(r:Int))] W fun e w'=>∃v,e=Zu (.tuple #[v,.int .u16 0])/\BayAt w' T A.b (R.s.ticks 0 1)/\Chg (fun k=>T k≠0) (w.alloc (Zv #[O Z 0,.int .u16 0] 76)) w'/\w'.ownsRow w.heap.size 5 1 v 128 (ucells (V m r))):=fun W hb=>by
  have k:=Zt8 (h0.below hb).bay m (1+(r:Int)) (by omega) hsm;have e1:R.s.read (m:Int) (1+(r:Int))=(0,some (R.s.sec m (1+r)),R.s.ticks 0 1):=by
   have:=Zul hs.fit m (1+r) (by rw[hs.n];omega) hG hsz;rw[show((1+r:Nat):Int)=1+(r:Int) by omega]at this;exact this
  rw[e1,hs.sec m r hm hr hw hd]at k;refine k.mono ?_;rintro e w' ⟨v,rfl,p1,p2,p3,-⟩;exact⟨v,rfl,p1,Zaj (Zm hb _) p2 (fun q _ hq=>hq),Zan (p3 _ rfl) (Zc hb0.size hb.size)⟩
 have HB0:Hid (Below (w.alloc (Zv #[O Z 0,.int .u16 0] 76)).heap.size (w.alloc (Zv #[O Z 0,.int .u16 0] 76)) (w.alloc (Zv #[O Z 0,.int .u16 0] 76))):=Zb _ _;have HTB:Hid (At (w.alloc (Zv #[O Z 0,.int .u16 0] 76)) w.heap.size #[O Z 0,.int .u16 0] 76):=At.new _ _ _;have hrI:(r:Int)<((R.S*R.C:Nat):Int):=by exact_mod_cast hr
 have hrow:R.S*R.C≤4096:=by have:=Za0 hs.geo;exact_mod_cast this.2
 have H:=hid h;have HBW:=hid hb0;have hqlt:=h.rw.lt;obtain⟨s0,s1,s2,s3⟩:=HSS.out _ (Zb _ _);clear h hs hw hd hG hsz hb0 h0;generalize R.M=M at*;generalize R.C=C at*;generalize R.S=S at*;generalize hSC:S*C=N at*;go_enter Tryz.func68,Tryz.ntmps68
 go_wp2_with (first
  |(go_at_call 112;(with_reducible refine(HIS.out _ HB0.out).mono ?_);rintro e w1 ⟨rfl,hw1⟩;subst hw1)
  |(go_at_call 40;(with_reducible refine(HGR.out _ HB0.out).mono ?_);rintro e w2 ⟨rfl,hb2⟩;have HB2:=hid hb2;clear hb2)
  |(go_at_call 113;(with_reducible refine(HWA.out _ HB2.out).mono ?_);rintro e w3 ⟨rfl,hb3⟩;have HB3:=hid hb3;obtain⟨u0,u1,u2,u3⟩:=HSS.out _ hb3;clear hb3)
  |(go_at_call 114;(with_reducible refine(HDN.out _ HB3.out).mono ?_);rintro e w4 ⟨rfl,hw4⟩;subst hw4)
  |(go_at_call 116;(with_reducible refine(HRD.out _ HB3.out).mono ?_);rintro e w5 ⟨v5,rfl,hb5,hc5,ho5⟩;have HB5:=hid hb5;have HC5:=hid hc5;have HO5:=hid ho5;obtain⟨a5,c5,rfl⟩:=Zab ho5;clear hb5 hc5 ho5)
  |(go_at_call 55;(with_reducible refine(Zdf _ _).mono ?_);rintro e w6 ⟨rfl,hb6⟩;have HB6:=hid hb6;have htb6:=(HTB.out.mod HC5.out (fun e=>e htb)).below hb6 (HTB.out.mod HC5.out (fun e=>e htb)).lt;have k0:w6.cell? ⟨w.heap.size,0,none⟩=some (O Z 0):=htb6.cell 0;have k1:w6.cell? ⟨w.heap.size,1,none⟩=some (.int .u16 0):=htb6.cell 1;have f0:=htb6.free 0;have f1:=htb6.free 1;have HT6:=hid htb6;clear hb6 htb6))
 have hst:Chg (fun k=>k=w.heap.size) w6 ((w6.setCell ⟨w.heap.size,0,none⟩ (O Z 0)).setCell ⟨w.heap.size,1,none⟩ (.int .u16 0)):=Zk (S:=fun k=>k=w.heap.size) (Zk (S:=fun k=>k=w.heap.size) (Zl _ _) ⟨w.heap.size,0,none⟩ (.inl rfl) _) ⟨w.heap.size,1,none⟩ (.inl rfl) _;have hF:=(HT6.out.set 0 (O Z 0)).set 1 (.int .u16 0);have r0:=hF.cell 0;have r1:=hF.cell 1;have hc6:Chg (fun k=>T k≠0) w w6:=(Zaj (Zm HBW.out _) (HC5.out.trans (Zm HB6.out _)) (fun q _ hq=>hq));have hcF:Chg (fun k=>T k≠0) w ((w6.setCell ⟨w.heap.size,0,none⟩ (O Z 0)).setCell ⟨w.heap.size,1,none⟩ (.int .u16 0)):=Zaj hc6 hst (fun q hq e=>by omega);have HEND:Hid (SecPost w T A R lg vw X (V m r) 1 (Zu (.tuple #[.slice a5 128 c5,.agg #[O Z 0,.int .u16 0]])) ((w6.setCell ⟨w.heap.size,0,none⟩ (O Z 0)).setCell ⟨w.heap.size,1,none⟩ (.int .u16 0))):=by
  refine⟨_,rfl,Zad (Zaf HO5.out HB6.out (Za _)) hst (fun q hq e=>Za4 (Zaf HO5.out HB6.out (Za _)) HT6.out (by decide) (by rw[hq,e])),H.out.turn (T':=T) ((HB5.out.below HB6.out).keep hst (fun k hk e=>hk (by rw[e];exact htb))) (fun _ _=>rfl) hcF,hcF⟩
 clear hst hF hc6 hcF HT6 HO5 HB5 HB6 HC5;(try simp only [Exit.inBlock,Exit.then]);refine bodyPost_ret (v:=.tuple #[.slice a5 128 c5,.agg #[O Z 0,.int .u16 0]]) ?_ rfl HEND.out;rw[Zbw rfl];go_simp;try rfl
theorem Zdy{R:RS}(h:RwIn w T A R lg vw X)(hs:Sound R V)(m r:Nat)(hm:m<R.M)(hr:r<R.S*R.C)(d:Sec)(hw:waitAt R.wait m r=some d):
  Calls Zw 68 #[.pointer (some ⟨A.q,0,none⟩),O Z m,O Z r] w (SecPost w T A R lg vw X (V m r) 0):=by
 have hb0:Below w.heap.size w (w.alloc (Zv #[O Z 0,.int .u16 0] 76)):=(Zb _ _).alloc (Za _) _;have hXf:X.length≤100000:=by
  have:=hs.wfew;rw[<-h.wtM,Zp]at this;omega
 have htb:T w.heap.size=0:=Zae h.bay _ (Za _);have h0:=h.below hb0;have HSS:Hid (∀W,Below (w.alloc (Zv #[O Z 0,.int .u16 0] 76)).heap.size (w.alloc (Zv #[O Z 0,.int .u16 0] 76)) W->W.cell? ⟨A.q,0,none⟩=some (.pointer (some ⟨A.b,0,none⟩))/\W.cell? ⟨A.q,1,none⟩=some (O Z R.M)/\W.cell? ⟨A.q,2,none⟩=some (O Z R.C)/\W.cell? ⟨A.q,3,none⟩=some (O Z R.S)):=fun W hb=>⟨(h0.below hb).rw.cell 0,(h0.below hb).rw.cell 1,(h0.below hb).rw.cell 2,(h0.below hb).rw.cell 3⟩
 have HIS:Hid (∀W,Below (w.alloc (Zv #[O Z 0,.int .u16 0] 76)).heap.size (w.alloc (Zv #[O Z 0,.int .u16 0] 76)) W->Calls Zw 112 #[.pointer (some ⟨A.q,0,none⟩),O Z m] W fun e w'=>e=Zu (.bool true)/\w'=W):=fun W hb=>(Zf1 (m:Int) W (h0.below hb).rw).mono (by
  rintro e w' ⟨rfl,rfl⟩
  refine⟨?_,rfl⟩
  have:(decide ((0:Int)≤m)&&decide ((m:Int)<(R.M:Int)))=true:=by simp;omega
  rw[this])
 have HGR:Hid (∀W,Below (w.alloc (Zv #[O Z 0,.int .u16 0] 76)).heap.size (w.alloc (Zv #[O Z 0,.int .u16 0] 76)) W->Calls Zw 40 #[.agg #[O Z R.M,O Z R.C,O Z R.S]] W fun e w'=>e=Zu (O Z (R.S*R.C:Nat))/\Below (w.alloc (Zv #[O Z 0,.int .u16 0] 76)).heap.size (w.alloc (Zv #[O Z 0,.int .u16 0] 76)) w'):=fun W hb=>(Zfc R.M R.C R.S W).mono (by
  rintro e w' ⟨rfl,hb'⟩
  exact⟨by rw[Zg0 hs.geo],hb.trans (hb'.mono hb.size)⟩)
 have HWA:Hid (∀W,Below (w.alloc (Zv #[O Z 0,.int .u16 0] 76)).heap.size (w.alloc (Zv #[O Z 0,.int .u16 0] 76)) W->Calls Zw 113 #[.pointer (some ⟨A.q,0,none⟩),O Z m,O Z r] W fun e w'=>∃v,e=Zu (.tuple #[v,.bool true])/\w'.ownsRow w.heap.size 5 1 v 128 (ucells (V m r))/\Below (w.alloc (Zv #[O Z 0,.int .u16 0] 76)).heap.size (w.alloc (Zv #[O Z 0,.int .u16 0] 76)) w'):=fun W hb=>(Zc8 (h0.below hb) hXf m r).mono (by
  intro e w' hp
  rcases hp with ⟨hn,-,-⟩|⟨d,v,hd',rfl,ho,hb'⟩
  ·rw[hw]at hn;cases hn
  ·rw[hw]at hd'
   simp only [Zg]at hd'
   subst hd'
   rw[<-hs.wait m r hm hr _ hw]
   exact⟨v,rfl,Zan ho (Zc hb0.size hb.size),hb.trans (hb'.mono hb.size)⟩)
 have HB0:Hid (Below (w.alloc (Zv #[O Z 0,.int .u16 0] 76)).heap.size (w.alloc (Zv #[O Z 0,.int .u16 0] 76)) (w.alloc (Zv #[O Z 0,.int .u16 0] 76))):=Zb _ _;have HTB:Hid (At (w.alloc (Zv #[O Z 0,.int .u16 0] 76)) w.heap.size #[O Z 0,.int .u16 0] 76):=At.new _ _ _;have hrI:(r:Int)<((R.S*R.C:Nat):Int):=by exact_mod_cast hr
 have hrow:R.S*R.C≤4096:=by have:=Za0 hs.geo;exact_mod_cast this.2
 have H:=hid h;have HBW:=hid hb0;have hqlt:=h.rw.lt;obtain⟨s0,s1,s2,s3⟩:=HSS.out _ (Zb _ _);clear h hs hw hb0 h0;generalize R.M=M at*;generalize R.C=C at*;generalize R.S=S at*;generalize hSC:S*C=N at*;go_enter Tryz.func68,Tryz.ntmps68
 go_wp2_with (first
  |(go_at_call 112;(with_reducible refine(HIS.out _ HB0.out).mono ?_);rintro e w1 ⟨rfl,hw1⟩;subst hw1)
  |(go_at_call 40;(with_reducible refine(HGR.out _ HB0.out).mono ?_);rintro e w2 ⟨rfl,hb2⟩;have HB2:=hid hb2;clear hb2)
  |(go_at_call 113;(with_reducible refine(HWA.out _ HB2.out).mono ?_);rintro e w6 ⟨v5,rfl,ho5,hb6⟩;have HO5:=hid ho5;have HB6:=hid hb6;obtain⟨a5,c5,rfl⟩:=Zab ho5;have htb6:=HTB.out.below hb6 HTB.out.lt;have k0:w6.cell? ⟨w.heap.size,0,none⟩=some (O Z 0):=htb6.cell 0;have k1:w6.cell? ⟨w.heap.size,1,none⟩=some (.int .u16 0):=htb6.cell 1;have f0:=htb6.free 0;have f1:=htb6.free 1;have HT6:=hid htb6;clear hb6 htb6 ho5))
 have hst:Chg (fun k=>k=w.heap.size) w6 ((w6.setCell ⟨w.heap.size,0,none⟩ (O Z 0)).setCell ⟨w.heap.size,1,none⟩ (.int .u16 0)):=Zk (S:=fun k=>k=w.heap.size) (Zk (S:=fun k=>k=w.heap.size) (Zl _ _) ⟨w.heap.size,0,none⟩ (.inl rfl) _) ⟨w.heap.size,1,none⟩ (.inl rfl) _;have hF:=(HT6.out.set 0 (O Z 0)).set 1 (.int .u16 0);have r0:=hF.cell 0;have r1:=hF.cell 1;have hc6:Chg (fun k=>T k≠0) w w6:=(Zm (HBW.out.trans (HB6.out.mono HBW.out.size)) _);have hcF:Chg (fun k=>T k≠0) w ((w6.setCell ⟨w.heap.size,0,none⟩ (O Z 0)).setCell ⟨w.heap.size,1,none⟩ (.int .u16 0)):=Zaj hc6 hst (fun q hq e=>by omega);have HEND:Hid (SecPost w T A R lg vw X (V m r) 0 (Zu (.tuple #[.slice a5 128 c5,.agg #[O Z 0,.int .u16 0]])) ((w6.setCell ⟨w.heap.size,0,none⟩ (O Z 0)).setCell ⟨w.heap.size,1,none⟩ (.int .u16 0))):=by
  refine⟨_,rfl,Zad HO5.out hst (fun q hq e=>Za4 HO5.out HT6.out (by decide) (by rw[hq,e])),H.out.turn (T':=T) (by rw[Zei];exact(H.out.bay.below (HBW.out.trans (HB6.out.mono HBW.out.size))).keep hst (fun k hk e=>hk (by rw[e];exact htb))) (fun _ _=>rfl) hcF,hcF⟩
 clear hst hF hc6 hcF HT6 HO5 HB6;(try simp only [Exit.inBlock,Exit.then]);refine bodyPost_ret (v:=.tuple #[.slice a5 128 c5,.agg #[O Z 0,.int .u16 0]]) ?_ rfl HEND.out;rw[Zbw rfl];go_simp;try rfl
end Go.Proofs.YtmemlkmnhcealaaGreat
