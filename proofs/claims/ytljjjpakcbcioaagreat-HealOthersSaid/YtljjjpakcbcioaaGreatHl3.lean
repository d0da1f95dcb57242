/- Several texts in one: Hl3, Hl4. -/
import Derived.Test.YtljjjpakcbcioaaGreatHl1
import Derived.Test.YtljjjpakcbcioaaGreatHl2
import Derived.Deep.Onto
import Derived.Deep.CutRange
import Derived.Deep.CutBlock
import Derived.Deep.RegionHeld3
set_option linter.unusedVariables false
set_option maxRecDepth 100000
set_option maxHeartbeats 32000000
namespace Go.Proofs.YtljjjpakcbcioaaGreat
open Go.RowKit
open Lib(hid)
variable {A:Adr} {cs:Array Value} {s s':BaySt} {lazy:Bool} {x y z:Int} {L:List (Nat×Array Value×TypeId)} {D l:List UInt8} {vs:List Value} {B C M P S a a' b b' g j k m n' q ring:Nat} {T:Nat->Nat} {V:Nat->Nat->Sec} {o:Obj} {lg:Option Nat} {R:RS} {t:TypeId} {u v v' vw:Value} {W X w w0:World}
structure Hn (w0 W:World) (T:Nat->Nat) (A:Adr) (R:RS):Prop where
 rw:∃lg vw X,RwIn W T A R lg vw X
 old:∀q,q<w0.heap.size->T q=0/\¬A.has q
 bel:Below w0.heap.size w0 W
section
variable {w0 W W':World} {T T':Nat->Nat} {A:Adr} {R R':RS} {V:Nat->Nat->Sec}
theorem LAt.hn(h:LAt w0 W T A R V):Hn w0 W T A R:=⟨h.rw,h.old,h.bel⟩
theorem Hn.lat(h:Hn w0 W T A R)(g:Good R V)(i:R.lazy=true\/R.wait= []):LAt w0 W T A R V:=⟨h.rw,g,i,h.old,h.bel⟩
theorem Hn.below(h:Hn w0 W T A R)(hb:Below W.heap.size W W'):Hn w0 W' T A R:=by
 obtain⟨lg,vw,X,hr⟩:=h.rw;exact⟨⟨lg,vw,X,hr.below hb⟩,h.old,h.bel.trans (hb.mono h.bel.size)⟩
theorem Hn.next(h:Hn w0 W T A R)(s:Stp W T A W' T'):(∀q,q<w0.heap.size->T' q=0/\¬A.has q)/\Below w0.heap.size w0 W':=by
 have hs:=h.bel.size;refine⟨fun q hq=>⟨(s.tags q (by omega)).trans (h.old q hq).1,(h.old q hq).2⟩,h.bel.trans (s.chg.below fun q hq=>⟨by omega,fun e=>e.elim (fun e=>e (h.old q hq).1) (h.old q hq).2⟩)⟩
theorem Hn.keep(h:Hn w0 W T A R)(s:Stp W T A W' T')(ha:At W g cs t)(ht:T g=0)(h1:101≠t)(h2:3≠t)(h3:133≠t)(h4:203≠t):At W' g cs t/\T' g=0:=by
 obtain⟨lg,vw,X,hr⟩:=h.rw;exact⟨ha.mod s.chg fun e=>e.elim (fun e=>e ht) (hr.offAt ha h1 h2 h3 h4),(s.tags g ha.lt).trans ht⟩
theorem Hn.virg(h:Hn w0 W T A R)(q:Nat)(hq:W.heap.size≤q):T q=0:=by
 obtain⟨lg,vw,X,hr⟩:=h.rw;exact Zae hr.bay q hq
theorem Hn.turn(h:Hn w0 W T A R)(hp:BayPost W T A.b s' W'):∃T',Hn w0 W' T' A {R with s:=s'}/\Stp W T A W' T':=by
 obtain⟨lg,vw,X,hr⟩:=h.rw;obtain⟨T',k1,k2,k3⟩:=hp;have hst:Stp W T A W' T':=⟨k2,k3.mono fun q e=>.inl e⟩;obtain⟨k4,k5⟩:=h.next hst;exact⟨T',⟨⟨lg,vw,X,hr.turn k1 k2 k3⟩,k4,k5⟩,hst⟩
theorem Zw6(h:Hn w0 W T A R)(m:Nat)(hm:m<R.s.n)(x:Dev)(hx:R.s.pos (m*3)=some x)(hsm:R.s.small 1000000):
  Calls Tryz.prog 30 #[.pointer (some ⟨A.b,0,none⟩),.int .i64 m] W fun e w'=>e=.returned (.int .u16 0)/\Hn w0 w' T A {R with s:=R.s.lose m}/\Stp W T A w' T:=by
 obtain⟨lg,vw,X,hr⟩:=h.rw;obtain⟨gs,ptr,tg,dp,hin⟩:=hr.bay;refine(Zkg hin m hm x hx (hsm (m*3) (by omega) x hx)).mono ?_;rintro e w' ⟨rfl,h1,h2⟩;have h1':BayAt w' T A.b (R.s.lose m):=by
  rw[<-Zsb hx];exact⟨gs,ptr,tg,dp,h1⟩
 have hst:Stp W T A w' T:=⟨fun _ _=>rfl,h2.mono fun q e=>.inl e⟩;obtain⟨k4,k5⟩:=h.next hst;exact⟨rfl,⟨⟨lg,vw,X,hr.turn h1' (fun _ _=>rfl) h2⟩,k4,k5⟩,hst⟩
theorem Zw3(h:Hn w0 W T A R)(m n:Nat)(hm:m<R.s.n){x:Dev}(hx:R.s.pos (m*3)=some x)(hf:x.d.failed=true)(h2:R.s.pos (m*3+2)=none)(hn:0<n)(hn2:n≤8192):
  Calls Tryz.prog 31 #[.pointer (some ⟨A.b,0,none⟩),.int .i64 m,.int .i64 n] W fun e w'=>e=.returned (.int .u16 0)/\∃T',Hn w0 w' T' A {R with s:=R.s.laid (m*3) ⟨freshDsk n,false,0⟩}/\Stp W T A w' T':=by
 obtain⟨lg,vw,X,hr⟩:=h.rw;refine(Zt3 hr.bay m n hm hx hf h2 hn hn2).mono ?_;rintro e w' ⟨rfl,hp⟩;obtain⟨T',k1,k2⟩:=h.turn hp;exact⟨rfl,T',k1,k2⟩
theorem Zvf(h:Hn w0 W T A R)(m:Nat)(dn:Bool)(hm:m<R.M):
  Calls Tryz.prog 13 #[.pointer (some ⟨A.q,0,none⟩),.int .i64 m,.bool dn,.int .i64 0] W fun e w'=>e=.returned (.tuple #[])/\Hn w0 w' T A (R.marked m dn)/\Stp W T A w' T:=by
 obtain⟨lg,vw,X,hr⟩:=h.rw;refine(Zs9 hr m dn hm).mono ?_;rintro e w' ⟨rfl,h1,h2⟩;have hst:Stp W T A w' T:=⟨fun _ _=>rfl,h2.mono fun q e=>.inr e⟩;obtain⟨k4,k5⟩:=h.next hst;exact⟨rfl,⟨⟨lg,vw,X,h1⟩,k4,k5⟩,hst⟩
theorem Zg1(h:Hn w0 W T A R)(h0:R.s.cnt 0=x)(h1:R.s.cnt 1=y)(h2:R.s.cnt 2=z):
  Calls Tryz.prog 14 #[.pointer (some ⟨A.b,0,none⟩)] W fun e w'=>e=.returned (.agg #[.int .i64 x,.int .i64 y,.int .i64 z])/\Below W.heap.size W w':=by
 obtain⟨lg,vw,X,hr⟩:=h.rw;have:=Zp2 hr.bay;unfold cntVal at this;rw[h0,h1,h2]at this;exact this
theorem Zvb(h:LAt w0 W T A R V)(hw:R.wait= [])(m s:Nat)(hm:m<R.M)(hs:s<R.S)(hd:∀k,k<R.C->R.dn m (s*R.C+k)=true)(hf:Fit R.s (fun j=>R.G j\/j=m) R.szs)(hc0:R.s.cnt 0≤990000000000)(hc1:R.s.cnt 1≤990000000000)(hc2:R.s.cnt 2≤990000000000)(hsm:R.s.small 900000):
  Calls Tryz.prog 15 #[.pointer (some ⟨A.b,0,none⟩),.agg #[.int .i64 R.M,.int .i64 R.C,.int .i64 R.S],.pointer (some ⟨A.q,0,none⟩),.int .i64 m,.int .i64 s] W fun e w'=>e=.returned (.agg #[.int .i64 0,.int .u16 0])/\∃T' s',LAt w0 w' T' A {R with s:=s'} V/\Stp W T A w' T'/\Healed R V m (s*R.C) R.C s':=by
 obtain⟨lg,vw,X,hr⟩:=h.rw;refine(Ztc hr h.good hw m s hm hs hd hf hc0 hc1 hc2 hsm).mono ?_;rintro e w' ⟨rfl,T',s',k1,k2,k3,k4⟩;have hst:Stp W T A w' T':=⟨k3,k4.mono fun q e=>.inl e⟩;obtain⟨k5,k6⟩:=h.next hst;exact⟨rfl,T',s',⟨⟨lg,vw,X,k1⟩,k2.good h.good hd,h.idle,k5,k6⟩,hst,k2⟩
end
theorem Zrq{n:Nat}(hn:0<n):CalmDev ⟨freshDsk n,false,0⟩ n:=by
 refine⟨rfl,rfl,by simp[freshDsk],fun s hs=> ?_,fun y hy=>(by cases hy),fun y hy=>(by cases hy)⟩;have:s∈List.replicate n zsec:=hs;rw[List.mem_replicate]at this;rw[this.2];simp[zsec]
theorem Zs4(s:BaySt)(m:Nat)(y:Dev):(s.lose m).laid (m*3) y=s.laid (m*3) y:=by
 unfold BaySt.lose BaySt.laid;congr 1;funext q;by_cases e:q=m*3
 ·rw[if_pos e,if_pos e]
 ·rw[if_neg e,if_neg e]
  exact if_neg e
abbrev RS.anew(R:RS)(m:Nat):RS:={R.marked m true with s:=R.s.laid (m*3) ⟨freshDsk (1+R.S*R.C),false,0⟩}
theorem Good.allUp(h:Good R V)(hf:R.fr=fun _=> -1):Fit R.s (fun _=>True) R.szs:=by
 have hd:∀m r,R.dn m r=false:=fun m r=>by unfold RS.dn;rw[hf];simp
 refine⟨h.fit.dark,h.fit.trip,fun j hj _=>h.fit.dev j hj ?_⟩;have:=(Zbe h.geo).2.2.1;have hn:=h.n;by_cases e:j=R.M
 ·exact .inl e
 ·exact .inr ⟨by omega,0,this,hd j 0⟩
theorem Good.anew(h:Good R V)(hf:R.fr=fun _=> -1)(hm:m<R.M):Good (R.anew m) V/\Fit (R.anew m).s (fun _=>True) (R.anew m).szs/\(∀r,(R.anew m).dn m r=true):=by
 have ha:=h.allUp hf;have hdn:∀j r,(R.marked m true).dn j r=decide (j=m):=fun j r=>by
  unfold RS.dn RS.marked;rw[hf];by_cases e:j=m
  ·simp[e]
  ·simp[e]
 have hfit:Fit (R.s.laid (m*3) ⟨freshDsk (1+R.S*R.C),false,0⟩) (fun _=>True) R.szs:=ha.laid m (by
  have:R.szs m=1+R.S*R.C:=by unfold RS.szs;rw[if_pos hm]
  rw[this]
  exact Zrq (by omega))
 refine⟨(h.mark hf m).aside rfl (hfit.sub fun _ _=>trivial) fun j r hj hr hd=> ?_,hfit,fun r=>(hdn m r).trans (by simp)⟩;rw[hdn j r,decide_eq_false_iff_not]at hd;exact Zcn (if_neg (by omega)) _
theorem Zrc{G:Nat->Prop}{sz:Nat->Nat}(hf:Fit s G sz)(hm:m<s.n)(hg:G m)(hd:s.dry m):∃L:List Sec,s.image (m:Int)=(0,some L)/\L.length=sz m/\(∀x∈L,x.length=128)/\∀z,z<sz m->L[z]?=some (s.sec m z):=by
 obtain⟨x,h1,h2⟩:=hd;obtain⟨y,e1,h3⟩:=hf.dev m hm hg;have hxy:y=x:=Option.some.inj (e1.symm.trans h1);subst hxy;refine⟨y.d.last,?_,h3.len,h3.secs,fun z hz=> ?_⟩
 ·rw[Zpl hm h1,if_neg (by rw[h3.failed];simp)]
 ·rw[Zdt h1]
  unfold Dsk.cur;rw[h2];have hl:z<y.d.last.length:=by rw[h3.len];exact hz
  show _=some (y.d.last.getD z zsec)
  rw[List.getElem?_eq_getElem hl,List.getD_eq_getElem?_getD,List.getElem?_eq_getElem hl];rfl
theorem Zvg(h:Hn w0 W T A R)(m:Nat){L:List Sec}(hL:R.s.image (m:Int)=(0,some L)):
  Calls Tryz.prog 34 #[.pointer (some ⟨A.b,0,none⟩),.int .i64 m] W fun e w'=>∃v,e=.returned (.tuple #[v,.int .u16 0])/\Below W.heap.size W w'/\w'.ownsRow W.heap.size 5 1 v (128*L.length) (ucells L.flatten):=by
 obtain⟨lg,vw,X,hr⟩:=h.rw;have:=Ztg hr.bay (m:Int);rw[hL]at this;refine this.mono ?_;rintro e w' ⟨v,rfl,h1,h2,-⟩;obtain⟨-,k⟩:=h2 L rfl;rw[Zci,Nat.mul_comm]at k;exact⟨v,rfl,h1,k⟩
open Go.RowKit
structure Hb (w0 W:World) (T:Nat->Nat) (A:Adr) (R:RS) (L:List (Nat×Array Value×TypeId)):Prop where
 hn:Hn w0 W T A R
 box:∀x∈L,At W x.1 x.2.1 x.2.2/\T x.1=0/\101≠x.2.2/\3≠x.2.2/\133≠x.2.2/\203≠x.2.2
section
variable {w0 W W':World} {T T':Nat->Nat} {A:Adr} {R R':RS} {V:Nat->Nat->Sec} {L:List (Nat×Array Value×TypeId)}
theorem Hb.below(h:Hb w0 W T A R L)(hb:Below W.heap.size W W'):Hb w0 W' T A R L:=
 ⟨h.hn.below hb,fun x hx=>⟨(h.box x hx).1.below hb (h.box x hx).1.lt,(h.box x hx).2⟩⟩
theorem Hb.step(h:Hb w0 W T A R L)(k:Hn w0 W' T' A R')(s:Stp W T A W' T'):Hb w0 W' T' A R' L:=
 ⟨k,fun x hx=>by
  obtain⟨h1,h2,h3,h4,h5,h6⟩:=h.box x hx
  obtain⟨k1,k2⟩:=h.hn.keep s h1 h2 h3 h4 h5 h6
  exact⟨k1,k2,h3,h4,h5,h6⟩⟩
theorem Hb.push(h:Hb w0 W T A R L)(cs:Array Value)(t:TypeId)(h1:101≠t)(h2:3≠t)(h3:133≠t)(h4:203≠t):Hb w0 (W.alloc (.cells cs t)) T A R ((W.heap.size,cs,t)::L):=by
 have hb:=h.below ((Below.refl W.heap.size W).alloc (Nat.le_refl _) (.cells cs t));refine⟨hb.hn,fun x hx=> ?_⟩;rcases List.mem_cons.1 hx with e|e
 ·subst e
  exact⟨At.new _ _ _,h.hn.virg _ (Nat.le_refl _),h1,h2,h3,h4⟩
 ·exact hb.box x e
theorem Hb.get(h:Hb w0 W T A R L)(i:Nat)(hi:L[i]?=some (g,cs,t)):At W g cs t:=(h.box _ (List.mem_of_getElem? hi)).1
theorem Hb.lat(h:Hb w0 W T A R L)(g:Good R V)(i:R.lazy=true\/R.wait= []):LAt w0 W T A R V:=h.hn.lat g i
theorem Zow(h:Hb w0 W T A R L)(hb:Below W.heap.size W W'):Hb w0 W' T A R L:=h.below hb
theorem Zbc(h:Hb w0 W T A R L):Hb w0 (W.alloc o) T A R L:=h.below ((Below.refl _ _).alloc (Nat.le_refl _) _)
theorem Zbt(h:Hb w0 W T A R L):Hb w0 W.drew T A R L:=h.below (Below.refl _ _).drew
theorem Zds{n:Nat}(hs:n=W.heap.size)(h:Hb w0 W T A R L):Hb w0 (W.alloc (.cells #[.int .i64 0,.int .u16 0] 33)) T A R ((n,#[.int .i64 0,.int .u16 0],33)::L):=by
 subst hs;exact h.push _ _ (by decide) (by decide) (by decide) (by decide)
theorem Zks(h:g=X.heap.size):At (X.alloc (.cells cs t)) g cs t:=by rw[h];exact At.new _ _ _
theorem Zcc(h:At X g cs t):At (X.alloc o) g cs t:=h.alloc o
theorem Hb.zeros{n:Nat}(h:Hb w0 W T A R ((n,#[.int .i64 0,.int .u16 0],33)::L))(hw:w0.heap.size≤n)(ht:∀x∈L,x.1≠n):Hb w0 ((W.setCell ⟨n,0,none⟩ (.int .i64 0)).setCell ⟨n,1,none⟩ (.int .u16 0)) T A R ((n,#[.int .i64 0,.int .u16 0],33)::L):=by
 obtain⟨b1,b2,b3⟩:=h.box _ List.mem_cons_self;have hst:Chg (fun p=>p=n) W ((W.setCell ⟨n,0,none⟩ (.int .i64 0)).setCell ⟨n,1,none⟩ (.int .u16 0)):=Chg.setCell (S:=fun p=>p=n) (Chg.setCell (S:=fun p=>p=n) (Chg.refl _ _) ⟨n,0,none⟩ (.inl rfl) _) ⟨n,1,none⟩ (.inl rfl) _;obtain⟨lg,vw,X,hr⟩:=h.hn.rw;refine⟨⟨⟨lg,vw,X,hr.box b1 b2 hst⟩,h.hn.old,h.hn.bel.trans (hst.below fun q hq=>⟨Nat.lt_of_lt_of_le hq h.hn.bel.size,fun e=>by omega⟩)⟩,fun x hx=> ?_⟩;rcases List.mem_cons.1 hx with e|e
 ·subst e
  exact⟨(b1.set 0 (.int .i64 0)).set 1 (.int .u16 0),b2,b3⟩
 ·obtain⟨k1,k2⟩:=h.box x hx
  exact⟨k1.mod hst (ht x e),k2⟩
end
section
variable {w0 W:World} {T:Nat->Nat} {A:Adr} {R:RS} {V:Nat->Nat->Sec} {L:List (Nat×Array Value×TypeId)}
theorem Zw7(hk:KnownRes R):1+R.S*R.C=3:=by rw[hk.S,hk.C]
theorem Zu4(hk:KnownRes R):R.s.small 1000000:=fun i hi x hx=>Nat.le_trans (hk.small i hi x hx) (by omega)
theorem Zvq(h:Hb w0 W T A (R.marked 0 true) L)(hk:KnownRes R)(hg:Good R V):
  Calls Tryz.prog 30 #[.pointer (some ⟨A.b,0,none⟩),.int .i64 0] W fun e w'=>e=.returned (.int .u16 0)/\Hb w0 w' T A {R.marked 0 true with s:=R.s.lose 0} L:=by
 have hn:0<R.s.n:=by rw[hg.n];omega
 obtain⟨x,hx,-⟩:=(hg.allUp hk.fr).dev 0 hn trivial;have hsm:=Zu4 hk;refine(Zw6 (R:=R.marked 0 true) h.hn 0 hn x hx hsm).mono ?_;rintro e w' ⟨rfl,k1,k2⟩;exact⟨rfl,h.step k1 k2⟩
theorem Zws(h:Hb w0 W T A {R.marked 0 true with s:=R.s.lose 0} L)(hk:KnownRes R)(hg:Good R V)(ha:∀q,q%3≠0->R.s.pos q=none):
  Calls Tryz.prog 31 #[.pointer (some ⟨A.b,0,none⟩),.int .i64 0,.int .i64 3] W fun e w'=>e=.returned (.int .u16 0)/\∃T',Hb w0 w' T' A (R.anew 0) L:=by
 have hn:0<R.s.n:=by rw[hg.n];omega
 obtain⟨x,hx,-⟩:=(hg.allUp hk.fr).dev 0 hn trivial;have hx':(R.s.lose 0).pos (0*3)=some ⟨⟨x.d.last,[],true⟩,x.worn,x.left⟩:=by
  unfold BaySt.lose;show(if 0*3=0*3 then (R.s.pos (0*3)).map (fun x=>(⟨⟨x.d.last,[],true⟩,x.worn,x.left⟩:Dev))else R.s.pos (0*3))=_
  rw[if_pos rfl,hx];rfl
 have h2:(R.s.lose 0).pos (0*3+2)=none:=by
  show(if 0*3+2=0*3 then (R.s.pos (0*3+2)).map (fun x=>(⟨⟨x.d.last,[],true⟩,x.worn,x.left⟩:Dev))else R.s.pos (0*3+2))=_
  rw[if_neg (by omega)];exact ha _ (by omega)
 have hl:=Zw7 hk;have k:=Zw3 (R:={R.marked 0 true with s:=R.s.lose 0}) h.hn 0 (1+R.S*R.C) hn hx' rfl h2 (by omega) (by omega);have e3:((1+R.S*R.C:Nat):Int)=3:=by rw[hl];rfl
 rw[e3]at k;refine k.mono ?_;rintro e w' ⟨rfl,T',k1,k2⟩;have e:({({R.marked 0 true with s:=R.s.lose 0}:RS)with s:=({R.marked 0 true with s:=R.s.lose 0}:RS).s.laid (0*3) ⟨freshDsk (1+R.S*R.C),false,0⟩}:RS)=R.anew 0:=by
  show({R.marked 0 true with s:=(R.s.lose 0).laid (0*3) ⟨freshDsk (1+R.S*R.C),false,0⟩}:RS)=_
  rw[Zs4]
 rw[e]at k1;exact⟨rfl,T',h.step k1 k2⟩
theorem Zso(h:Hb w0 W T A (R.anew 0) L)(hk:KnownRes R)(hg:Good R V):
  Calls Tryz.prog 15 #[.pointer (some ⟨A.b,0,none⟩),.agg #[.int .i64 3,.int .i64 1,.int .i64 2],.pointer (some ⟨A.q,0,none⟩),.int .i64 0,.int .i64 0] W fun e w'=>e=.returned (.agg #[.int .i64 0,.int .u16 0])/\∃T' s',Hb w0 w' T' A {R.anew 0 with s:=s'} L/\Healed (R.anew 0) V 0 0 1 s':=by
 obtain⟨g1,g2,g3⟩:=hg.anew hk.fr (m:=0) (by rw[hk.M];omega);have hM:(R.anew 0).M=3:=hk.M;have hC:(R.anew 0).C=1:=hk.C;have hS:(R.anew 0).S=2:=hk.S
 have k:=Zvb (h.lat g1 (.inr hk.wait)) hk.wait 0 0 (by rw[hM];omega) (by rw[hS];omega) (fun k _=>g3 _) (g2.sub fun _ _=>trivial) (by show R.s.cnt 0≤_;rw[hk.c0];omega) (by show R.s.cnt 1≤_;rw[hk.c1];omega) (by show R.s.cnt 2≤_;rw[hk.c2];omega) (fun i hi x hx=>by
  change (if i=0*3 then some _ else R.s.pos i)=some x at hx
  by_cases e:i=0*3
  ·rw[if_pos e]at hx
   simp only [Option.some.injEq]at hx
   subst hx
   exact Nat.zero_le _
  ·rw[if_neg e]at hx
   exact Nat.le_trans (hk.small i hi x hx) (by omega))
 have e0:(.agg #[.int .i64 (R.anew 0).M,.int .i64 (R.anew 0).C,.int .i64 (R.anew 0).S]:Value)=.agg #[.int .i64 3,.int .i64 1,.int .i64 2]:=by
  rw[hM,hC,hS];rfl
 rw[e0]at k;refine k.mono ?_;rintro e w' ⟨rfl,T',s',k1,k2,k3⟩;rw[hC]at k3;exact⟨rfl,T',s',h.step k1.hn k2,k3⟩
theorem Zuw(h:Hb w0 W T A {R.anew 0 with s:=s'} L)(hs:Healed (R.anew 0) V 0 0 1 s')(hk:KnownRes R)(hg:Good R V)(hb:blkOf 3 1 V 0=knownS):
  Calls Tryz.prog 34 #[.pointer (some ⟨A.b,0,none⟩),.int .i64 0] W fun e w'=>∃g cap,e=.returned (.tuple #[.slice (some ⟨g,0,none⟩) 384 cap,.int .u16 0])/\Below W.heap.size W w'/\w'.cell? ⟨g,135,none⟩=some (.int .u8 5)/\g<w'.heap.size:=by
 have hM:(R.anew 0).M=3:=hk.M;have hC:(R.anew 0).C=1:=hk.C;have hS:(R.anew 0).S=2:=hk.S;have hz:(R.anew 0).szs 0=3:=by
  unfold RS.szs;rw[hM,hC,hS];rfl
 obtain⟨Li,h1,h2,h3,h4⟩:=Zrc hs.fit (m:=0) (by rw[hs.n];show 0<R.s.n;rw[hg.n];omega) (.inr rfl) hs.dry;rw[hz]at h2 h4;have hv:Li[1]?=some knownS:=by
  rw[h4 1 (by omega),hs.sec 1 (by rw[hC,hS];omega),if_pos (by omega),<-hb];rfl
 refine(Zvg h.hn 0 h1).mono ?_;rintro e w' ⟨v,rfl,k1,k2⟩;rw[h2]at k2;obtain⟨g,cap,rfl,-,hlt⟩:=Zas k2 (by omega);refine⟨g,cap,rfl,k1,?_,hlt⟩;have hb1:=Zqs h3 (i:=1) (j:=7) (by omega) (by omega);have hb2:Li[1]'(by omega)=knownS:=by
  have:=hv;rw[List.getElem?_eq_getElem (by omega)]at this;exact Option.some.inj this
 rw[hb2]at hb1;have hb3:(ucells Li.flatten)[135]?=some (.int .u8 5):=by
  unfold ucells;rw[List.getElem?_map,show(135:Nat)=128*1+7 by omega,hb1];rfl
 have:=k2.cells (g:=g) rfl 135 _ hb3;rw[Go.WideShapes.add_plain,Nat.zero_add]at this;exact this
end
structure KnR (R:RS) (V:Nat->Nat->Sec):Prop where
 res:KnownRes R
 good:Good R V
 aside:∀q,q%3≠0->R.s.pos q=none
 blk:blkOf 3 1 V 0=knownS
abbrev knR0:RS:=made0R 3 1 2 10 false
theorem Zgx(h:Hb w0 W T A knR0 L){p:Nat}(hp:At W p #[.int .i64 0,.slice (some ⟨g,0,none⟩) 128 128] 53)(hgb:At W g (ucells knownS).toArray 5):
  Calls Tryz.prog 12 #[.pointer (some ⟨A.q,0,none⟩),.slice (some ⟨p,0,none⟩) 1 1] W fun e w'=>e=.returned (.agg #[.int .i64 0,.int .u16 0])/\∃T' R V,Hb w0 w' T' A R L/\KnR R V:=by
 have hmade:=Zey (M:=3) (C:=1) (S:=2) (ring:=10) (by omega) (by omega) (by omega);have hgood:Good knR0 zeroV:=Zfb (by decide) (by omega) (by omega) hmade;have hh:=h.lat hgood (.inr rfl);have hasd:=hmade.aside;have heq:knR0=kR (formed (rBay 3 (2*1) 10) 3 10 1):=rfl;rw[heq]at h hh;generalize formed (rBay 3 (2*1) 10) 3 10 1=s0 at*;obtain⟨lg,vw,X,hr⟩:=hh.rw;have hpW:∀W',Chg (fun q=>q=A.q) W W'->PutSeg W' (.slice (some ⟨p,0,none⟩) 1 1) (kU knownS):=fun W' hc=>Zuh (hp.mod hc (Zaw hp hr.rw (by decide))) (hgb.mod hc (Zaw hgb hr.rw (by decide))) Zb6
 have hfit:2*mostIn (kR s0).M ((kR s0).S*(kR s0).C) (tabAll (kR s0).M (kR s0).C (kU knownS))+1≤(kR s0).size:=by
  have:=Zu9 knownS;show 2*mostIn 3 (2*1) (tabAll 3 1 (kU knownS))+1≤10
  rw[this];omega
 refine(Zjv hr hh.good _ (kU knownS) hpW (Zgz knownS Zb6) (by simp[kU]) hfit (by show 1≤1000000000000;omega) ?_ ?_ ?_ ?_).mono ?_
 ·show s0.cnt 0≤_;rw[hmade.c0];omega
 ·show s0.cnt 1≤_;rw[hmade.c1];omega
 ·show s0.cnt 2≤_;rw[hmade.c2];omega
 ·exact hmade.small.mono (by omega)
 ·rintro e w' ⟨rfl,ps,R1,R4,R',sec,lg',vw',X',hbt,T',k1,k2,k3⟩
  have hst:Stp W T A w' T':=⟨k2,k3⟩;obtain⟨k4,k5⟩:=hh.next hst;have hres:=hbt.res hh.good (Zgz knownS Zb6) (by simp[kU]) hfit (by show 1≤1000000000000;omega);exact⟨rfl,T',R',_,h.step ⟨⟨lg',vw',X',k1⟩,k4,k5⟩ hst,Zsd hmade Zb6 hbt,hres.good,fun q hq=>(hres.base.aside q hq).trans (hasd q hq),Zph zeroV s0 hh.good⟩
theorem Zvp(h:Hb w0 W T A R L)(hk:KnownRes R):
  Calls Tryz.prog 13 #[.pointer (some ⟨A.q,0,none⟩),.int .i64 0,.bool true,.int .i64 0] W fun e w'=>e=.returned (.tuple #[])/\Hb w0 w' T A (R.marked 0 true) L:=by
 refine(Zvf h.hn 0 true (by rw[hk.M];omega)).mono ?_;rintro e w' ⟨rfl,k1,k2⟩;exact⟨rfl,h.step k1 k2⟩
theorem Zqy(h:Hb w0 W T A (R.anew 0) L)(hk:KnownRes R):
  Calls Tryz.prog 14 #[.pointer (some ⟨A.b,0,none⟩)] W fun e w'=>e=.returned (.agg #[.int .i64 1,.int .i64 18,.int .i64 3])/\Below W.heap.size W w':=
 Zg1 h.hn hk.c0 hk.c1 hk.c2
theorem Zqa(h:Hb w0 W T A {R.anew 0 with s:=s'} L)(hs:Healed (R.anew 0) V 0 0 1 s')(hk:KnownRes R):
  Calls Tryz.prog 14 #[.pointer (some ⟨A.b,0,none⟩)] W fun e w'=>e=.returned (.agg #[.int .i64 3,.int .i64 19,.int .i64 4])/\Below W.heap.size W w':=by
 have hM:(R.anew 0).M=3:=hk.M;have e0:(R.anew 0).s.cnt 0=1:=hk.c0;have e1:(R.anew 0).s.cnt 1=18:=hk.c1;have e2:(R.anew 0).s.cnt 2=3:=hk.c2;exact Zg1 h.hn (by show s'.cnt 0=3;rw[hs.c0,e0,hM];rfl) (by show s'.cnt 1=19;rw[hs.c1,e1];rfl) (by show s'.cnt 2=4;rw[hs.c2,e2];rfl)
open Go.RowKit
theorem Zw5{P Q:Prop}(h:P)(k:P->Q):Q:=k h
abbrev geoBox(g:Nat):Nat×Array Value×TypeId:=(g,#[.int .i64 3,.int .i64 1,.int .i64 2],23)
abbrev trBox(g:Nat):Nat×Array Value×TypeId:=(g,#[.int .i64 0,.int .u16 0],33)
abbrev cntBox(g:Nat)(x y z:Int):Nat×Array Value×TypeId:=(g,#[.int .i64 x,.int .i64 y,.int .i64 z],46)
abbrev pairBox(g:Nat)(A:Adr)(cp sp:Nat):Nat×Array Value×TypeId:=(g,pairCells A cp sp,39)
theorem Zl0(W:World):Calls Tryz.prog 9 #[] W fun e w'=>e=.returned (.bool true)/\Below W.heap.size W w':=by
 have hg:geoIs ((3:Nat):Int) ((1:Nat):Int) ((2:Nat):Int)=true:=by decide
 have hb1:Below W.heap.size W (W.alloc (.cells #[.int .i64 3,.int .i64 1,.int .i64 2] 23)):=(Below.refl _ _).alloc (Nat.le_refl _) _;have ha1:At (W.alloc (.cells #[.int .i64 3,.int .i64 1,.int .i64 2] 23)) W.heap.size #[.int .i64 3,.int .i64 1,.int .i64 2] 23:=At.new _ _ _;have HMA:Hid (Calls Tryz.prog 11 #[.agg #[.int .i64 3,.int .i64 1,.int .i64 2],.int .i64 10,.bool false] (W.alloc (.cells #[.int .i64 3,.int .i64 1,.int .i64 2] 23)) fun e w'=>∃T A pp cp sp,e=.returned (.pointer (some ⟨pp,0,none⟩))/\Hb (W.alloc (.cells #[.int .i64 3,.int .i64 1,.int .i64 2] 23)) w' T A knR0 [pairBox pp A cp sp,geoBox W.heap.size]):=by
  refine(Zom 3 1 2 10 false _ hg (by omega) (by omega)).mono ?_;rintro e w' ⟨T,A,pp,cp,sp,rfl,k1,k2,k3,k4⟩;refine⟨T,A,pp,cp,sp,rfl,k1.hn,fun x hx=> ?_⟩;rcases List.mem_cons.1 hx with e|e
  ·subst e
   exact⟨k2,k3,(by decide:(101:TypeId)≠39),(by decide:(3:TypeId)≠39),(by decide:(133:TypeId)≠39),(by decide:(203:TypeId)≠39)⟩
  ·rcases List.mem_cons.1 e with e|e
   ·subst e
    exact⟨ha1.below k1.bel ha1.lt,(k1.old _ ha1.lt).1,(by decide:(101:TypeId)≠23),(by decide:(3:TypeId)≠23),(by decide:(133:TypeId)≠23),(by decide:(203:TypeId)≠23)⟩
   ·cases e
 have HSE:Hid (∀w,Calls Tryz.prog 40 #[.int .u8 5] w fun e w'=>∃g,e=.returned (.slice (some ⟨g,0,none⟩) 128 128)/\At w' g (ucells knownS).toArray 5/\Below w.heap.size w w'):=fun w=>(Zpx 5 w).mono fun e w' ⟨x1,x2,x3⟩=>⟨_,x1,x2,x3⟩
 have HB1:=hid hb1;have d0:=ha1.cell 0;have d1:=ha1.cell 1;have d2:=ha1.cell 2;have hl1:=ha1.lt;clear hb1 ha1 hg;have HW1:Hid (W.heap.size≤(W.alloc (.cells #[.int .i64 3,.int .i64 1,.int .i64 2] 23)).heap.size):=HB1.out.size;go_enter Tryz.func9,Tryz.ntmps9;go_upto_region 5 with (go_at_call 11;(with_reducible refine HMA.out.mono ?_);rintro e w2 ⟨T2,A,pp,cp,sp,rfl,hb2⟩;have HB2:=hid hb2;clear hb2)
 obtain⟨w1,hw1⟩:∃w1,w1=(W.alloc (.cells #[.int .i64 3,.int .i64 1,.int .i64 2] 23)):=⟨_,rfl⟩;rw[<-hw1]at HB2 HB1 HW1;clear HMA hw1 d0 d1 d2 hl1;go_cut [3]from 14 to 22 (fun s3 wx=>∃tb T R V,s3=.pointer (some ⟨tb,0,none⟩)/\Hb w1 wx T A R [trBox tb,pairBox pp A cp sp,geoBox W.heap.size]/\KnR R V);case first=>
  have HZ2:Hid (w1.heap.size≤w2.heap.size):=HB2.out.hn.bel.size;have HNT:Hid (∀x∈ [pairBox pp A cp sp,geoBox W.heap.size],x.1<w2.heap.size):=fun x hx=>(HB2.out.box x hx).1.lt
  have HS:Hid (∀X L,Hb w1 X T2 A knR0 L->pairBox pp A cp sp∈L->X.cell? ⟨pp,2,none⟩=some (.pointer (some ⟨A.q,0,none⟩))):=fun X L h hm=>((h.box _ hm).1).cell 2
  have HS5:Hid (∀X T R L,Hb w1 X T A R L->pairBox pp A cp sp∈L->X.cell? ⟨pp,2,none⟩=some (.pointer (some ⟨A.q,0,none⟩))):=fun X T R L h hm=>((h.box _ hm).1).cell 2
  go_region_held3 (fun X=>X.cell? ⟨pp,2,none⟩=some (.pointer (some ⟨A.q,0,none⟩)))
   (first
    |(refine HS.out _ [pairBox pp A cp sp,geoBox W.heap.size] ?_ List.mem_cons_self;(focus ((repeat (first|with_reducible exact HB2.out|with_reducible refine Zbc ?_|with_reducible refine Zbt ?_|with_reducible exact HB3.out|with_reducible exact HBT.out));done)))
    |(refine HS.out _ [trBox w2.heap.size,pairBox pp A cp sp,geoBox W.heap.size] ?_ (List.mem_cons_of_mem _ List.mem_cons_self);(focus ((repeat (first|with_reducible exact HBT.out|with_reducible refine Zbc ?_|with_reducible refine Zbt ?_));done)))
    |(refine HS5.out _ _ _ _ HB5.out ?_;(first|exact List.mem_cons_self|exact List.mem_cons_of_mem _ List.mem_cons_self))
    |(refine HS5.out _ _ _ _ HFIN.out ?_;(first|exact List.mem_cons_self|exact List.mem_cons_of_mem _ List.mem_cons_self))
    |(refine HS5.out _ _ _ _ (Zbc HB5.out) ?_;(first|exact List.mem_cons_self|exact List.mem_cons_of_mem _ List.mem_cons_self)))
   (first
    |(go_at_call 40;(with_reducible refine(HSE.out _).mono ?_);rintro e w3 ⟨g3,rfl,hs3,hb3⟩;have HS3:=hid hs3;(refine Zw5 (P:=Hb w1 w3 T2 A knR0 [trBox w2.heap.size,pairBox pp A cp sp,geoBox W.heap.size]) ?_ ?_);(focus (refine Zow ?_ hb3;(repeat (first|with_reducible exact HB2.out|(with_reducible refine Zds ?_ ?_;(focus (first|with_reducible rfl|(simp only [Zaa];done))))|with_reducible refine Zbc ?_|with_reducible refine Zbt ?_|with_reducible exact HB3.out|with_reducible exact HBT.out));done));intro hbt;have HZ3:Hid (w1.heap.size≤w3.heap.size):=hbt.hn.bel.size;have HBT:=hid hbt;clear hbt;clear hs3 hb3)
    |(go_at_call 40;(with_reducible refine(HSE.out _).mono ?_);rintro e w3 ⟨g3,rfl,hs3,hb3⟩;have HS3:=hid hs3;(refine Zw5 (P:=Hb w1 w3 T2 A knR0 [pairBox pp A cp sp,geoBox W.heap.size]) ?_ ?_);(focus (refine Zow ?_ hb3;(repeat (first|with_reducible exact HB2.out|with_reducible refine Zbc ?_|with_reducible refine Zbt ?_|with_reducible exact HB3.out|with_reducible exact HBT.out));done));intro hbt;have HZ3:Hid (w1.heap.size≤w3.heap.size):=hbt.hn.bel.size;have HN3:Hid (∀x∈ [pairBox pp A cp sp,geoBox W.heap.size],x.1<w3.heap.size):=fun x hx=>(hbt.box x hx).1.lt;have HB3:=hid hbt;clear hbt;clear hs3 hb3)
    |(go_at_call 12;(with_reducible refine Calls.mono (Zgx (w0:=w1) (T:=T2) (A:=A) (g:=g3) (L:= [trBox w2.heap.size,pairBox pp A cp sp,geoBox W.heap.size]) ?_ ?_ ?_) ?_);(focus ((repeat (first|with_reducible exact HB2.out|(with_reducible refine Zds ?_ ?_;(focus (first|with_reducible rfl|(simp only [Zaa];done))))|with_reducible refine Zbc ?_|with_reducible refine Zbt ?_|with_reducible exact HB3.out|with_reducible exact HBT.out));done));(focus ((repeat (first|(with_reducible refine Zks ?_;(focus (first|with_reducible rfl|(simp only [Zaa];done))))|with_reducible refine Zcc ?_|with_reducible refine hat_drew ?_));done));(focus ((repeat (first|with_reducible exact HS3.out|with_reducible refine Zcc ?_|with_reducible refine hat_drew ?_));done));rintro e w5 ⟨rfl,T5,R5,V5,hb5,hk5⟩;have HB5:=hid hb5;have HK5:=hid hk5;have hx5:=hb5.get 0 rfl;have c0:=hx5.cell 0;have c1:=hx5.cell 1;have f0:=hx5.free 0;have f1:=hx5.free 1;have HFIN:=hid (hb5.zeros HZ2.out (fun x hx=>Nat.ne_of_lt (HNT.out x hx)));clear hx5;clear hb5 hk5)
    |(go_at_call 12;(with_reducible refine Calls.mono (Zgx (w0:=w1) (T:=T2) (A:=A) (g:=g3) (L:= [trBox w3.heap.size,pairBox pp A cp sp,geoBox W.heap.size]) ?_ ?_ ?_) ?_);(focus ((repeat (first|with_reducible exact HB2.out|(with_reducible refine Zds ?_ ?_;(focus (first|with_reducible rfl|(simp only [Zaa];done))))|with_reducible refine Zbc ?_|with_reducible refine Zbt ?_|with_reducible exact HB3.out|with_reducible exact HBT.out));done));(focus ((repeat (first|(with_reducible refine Zks ?_;(focus (first|with_reducible rfl|(simp only [Zaa];done))))|with_reducible refine Zcc ?_|with_reducible refine hat_drew ?_));done));(focus ((repeat (first|with_reducible exact HS3.out|with_reducible refine Zcc ?_|with_reducible refine hat_drew ?_));done));rintro e w5 ⟨rfl,T5,R5,V5,hb5,hk5⟩;have HB5:=hid hb5;have HK5:=hid hk5;have hx5:=hb5.get 0 rfl;have c0:=hx5.cell 0;have c1:=hx5.cell 1;have f0:=hx5.free 0;have f1:=hx5.free 1;have HFIN:=hid (hb5.zeros HZ3.out (fun x hx=>Nat.ne_of_lt (HN3.out x hx)));clear hx5;clear hb5 hk5)
    |(go_at_call 12;(with_reducible refine Calls.mono (Zgx (w0:=w1) (T:=T2) (A:=A) (g:=g3) (L:= [trBox (w3.heap.size+1),pairBox pp A cp sp,geoBox W.heap.size]) ?_ ?_ ?_) ?_);(focus ((repeat (first|with_reducible exact HB2.out|(with_reducible refine Zds ?_ ?_;(focus (first|with_reducible rfl|(simp only [Zaa];done))))|with_reducible refine Zbc ?_|with_reducible refine Zbt ?_|with_reducible exact HB3.out|with_reducible exact HBT.out));done));(focus ((repeat (first|(with_reducible refine Zks ?_;(focus (first|with_reducible rfl|(simp only [Zaa];done))))|with_reducible refine Zcc ?_|with_reducible refine hat_drew ?_));done));(focus ((repeat (first|with_reducible exact HS3.out|with_reducible refine Zcc ?_|with_reducible refine hat_drew ?_));done));rintro e w5 ⟨rfl,T5,R5,V5,hb5,hk5⟩;have HB5:=hid hb5;have HK5:=hid hk5;have hx5:=hb5.get 0 rfl;have c0:=hx5.cell 0;have c1:=hx5.cell 1;have f0:=hx5.free 0;have f1:=hx5.free 1;have HFIN:=hid (hb5.zeros (Nat.le_succ_of_le HZ3.out) (fun x hx=>Nat.ne_of_lt (Nat.lt_succ_of_lt (HN3.out x hx))));clear hx5;clear hb5 hk5)
    |(go_at_call 12;(with_reducible refine Calls.mono (Zgx (w0:=w1) (T:=T2) (A:=A) (g:=g3) (L:= [pairBox pp A cp sp,geoBox W.heap.size]) ?_ ?_ ?_) ?_);(focus ((repeat (first|with_reducible exact HB2.out|with_reducible refine Zbc ?_|with_reducible refine Zbt ?_|with_reducible exact HB3.out|with_reducible exact HBT.out));done));(focus ((repeat (first|(with_reducible refine Zks ?_;(focus (first|with_reducible rfl|(simp only [Zaa];done))))|with_reducible refine Zcc ?_|with_reducible refine hat_drew ?_));done));(focus ((repeat (first|with_reducible exact HS3.out|with_reducible refine Zcc ?_|with_reducible refine hat_drew ?_));done));rintro e w5 ⟨rfl,T5,R5,V5,hb5,hk5⟩;have HB5:=hid hb5;have HK5:=hid hk5;have HFIN:=hid (Zds rfl hb5);clear hb5 hk5))
  all_goals go_wp2_with fail
  all_goals go_meet
  all_goals exact⟨_,_,_,_,rfl,HFIN.out,HK5.out⟩
 case rest=>
  obtain⟨tb,T5,R5,V5,rfl,hb5,hk5⟩:=hcut;have p2:wc.cell? ⟨pp,2,none⟩=some (.pointer (some ⟨A.q,0,none⟩)):=(hb5.get 1 rfl).cell 2;have HB5:=hid hb5;have HK:=hid hk5;have HN5:Hid (pp<wc.heap.size):=(hb5.get 1 rfl).lt;clear hb5 hk5
  go_upto_region 10 with (first
   |(go_at_call 13;(with_reducible refine(Zvp HB5.out HK.out.res).mono ?_);rintro e w6 ⟨rfl,hb6⟩;clear p2;have HB6:=hid hb6;have p0:w6.cell? ⟨pp,0,none⟩=some (.pointer (some ⟨A.b,0,none⟩)):=(hb6.get 1 rfl).cell 0;clear hb6)
   |(go_at_call 30;(with_reducible refine(Zvq HB6.out HK.out.res HK.out.good).mono ?_);rintro e w7 ⟨rfl,hb7⟩;clear p0;have HB7:=hid hb7;have p0:w7.cell? ⟨pp,0,none⟩=some (.pointer (some ⟨A.b,0,none⟩)):=(hb7.get 1 rfl).cell 0;clear hb7)
   |(go_at_call 31;(with_reducible refine(Zws HB7.out HK.out.res HK.out.good HK.out.aside).mono ?_);rintro e w8 ⟨rfl,T8,hb8⟩;clear p0;have HB8:=hid hb8;have p0:w8.cell? ⟨pp,0,none⟩=some (.pointer (some ⟨A.b,0,none⟩)):=(hb8.get 1 rfl).cell 0;clear hb8)
   |(go_at_call 14;(with_reducible refine(Zqy HB8.out HK.out.res).mono ?_);rintro e w9 ⟨rfl,hb9⟩;clear p0;have HB9:=hid ((HB8.out.below hb9).push #[.int .i64 1,.int .i64 18,.int .i64 3] 46 (by decide) (by decide) (by decide) (by decide));clear hb9))
  obtain⟨cb,hcb⟩:∃cb,cb=w9.heap.size:=⟨_,rfl⟩;have HBA:Hid (Hb w1 (w9.alloc (.cells #[.int .i64 1,.int .i64 18,.int .i64 3] 46)) T8 A (R5.anew 0) (cntBox cb 1 18 3:: [trBox tb,pairBox pp A cp sp,geoBox W.heap.size])):=by rw[hcb];exact HB9.out
  rw[<-hcb];clear HB9 HB8 HB7 HB6 HB5 hcb;generalize (w9.alloc (.cells #[.int .i64 1,.int .i64 18,.int .i64 3] 46))=wa at*;go_cut [5]from 42 to 52 (fun s5 wx=>∃ub T s',s5=.pointer (some ⟨ub,0,none⟩)/\Hb w1 wx T A {R5.anew 0 with s:=s'} (trBox ub::(cntBox cb 1 18 3:: [trBox tb,pairBox pp A cp sp,geoBox W.heap.size]))/\Healed (R5.anew 0) V5 0 0 1 s');case first=>
   have HZA:Hid (w1.heap.size≤wa.heap.size):=HBA.out.hn.bel.size;have HS:Hid (∀X T R L,Hb w1 X T A R L->pairBox pp A cp sp∈L/\geoBox W.heap.size∈L->X.cell? ⟨pp,0,none⟩=some (.pointer (some ⟨A.b,0,none⟩))/\X.cell? ⟨pp,2,none⟩=some (.pointer (some ⟨A.q,0,none⟩))/\X.cell? ⟨W.heap.size,0,none⟩=some (.int .i64 3)/\X.cell? ⟨W.heap.size,1,none⟩=some (.int .i64 1)/\X.cell? ⟨W.heap.size,2,none⟩=some (.int .i64 2)):=fun X T R L h hm=>⟨((h.box _ hm.1).1).cell 0,((h.box _ hm.1).1).cell 2,((h.box _ hm.2).1).cell 0,((h.box _ hm.2).1).cell 1,((h.box _ hm.2).1).cell 2⟩
   have HM4:Hid (pairBox pp A cp sp∈(cntBox cb 1 18 3:: [trBox tb,pairBox pp A cp sp,geoBox W.heap.size])/\geoBox W.heap.size∈(cntBox cb 1 18 3:: [trBox tb,pairBox pp A cp sp,geoBox W.heap.size])):=⟨by simp,by simp⟩;have HM5:Hid (∀n,pairBox pp A cp sp∈(trBox n::(cntBox cb 1 18 3:: [trBox tb,pairBox pp A cp sp,geoBox W.heap.size]))/\geoBox W.heap.size∈(trBox n::(cntBox cb 1 18 3:: [trBox tb,pairBox pp A cp sp,geoBox W.heap.size]))):=fun n=>⟨by simp,by simp⟩
   have HL4:Hid (∀x∈(cntBox cb 1 18 3:: [trBox tb,pairBox pp A cp sp,geoBox W.heap.size]),x.1≠wa.heap.size):=fun x hx=>Nat.ne_of_lt (HBA.out.box x hx).1.lt
   go_region_held3 (fun X=>X.cell? ⟨pp,0,none⟩=some (.pointer (some ⟨A.b,0,none⟩))/\X.cell? ⟨pp,2,none⟩=some (.pointer (some ⟨A.q,0,none⟩))/\X.cell? ⟨W.heap.size,0,none⟩=some (.int .i64 3)/\X.cell? ⟨W.heap.size,1,none⟩=some (.int .i64 1)/\X.cell? ⟨W.heap.size,2,none⟩=some (.int .i64 2))
    (first
     |(refine HS.out _ T8 (R5.anew 0) (cntBox cb 1 18 3:: [trBox tb,pairBox pp A cp sp,geoBox W.heap.size]) ?_ HM4.out;(focus ((repeat (first|with_reducible exact HBA.out|with_reducible refine Zbc ?_|with_reducible refine Zbt ?_));done)))
     |exact HS.out _ _ _ _ HBB.out HM4.out
     |exact HS.out _ _ _ _ HBB.out (HM5.out _)
     |exact HS.out _ _ _ _ (Zbc HBB.out) HM4.out
     |exact HS.out _ _ _ _ HFIN.out (HM5.out _))
    (first
     |(go_at_call 15;(with_reducible refine Calls.mono (Zso (w0:=w1) (T:=T8) (A:=A) (R:=R5) (V:=V5) (L:=trBox wa.heap.size::(cntBox cb 1 18 3:: [trBox tb,pairBox pp A cp sp,geoBox W.heap.size])) ?_ HK.out.res HK.out.good) ?_);(focus ((repeat (first|with_reducible exact HBA.out|(with_reducible refine Zds ?_ ?_;(focus (first|with_reducible rfl|(simp only [Zaa];done))))|with_reducible refine Zbc ?_|with_reducible refine Zbt ?_));done));rintro e wb ⟨rfl,Tb,sb,hb,hh⟩;have hx:=hb.get 0 rfl;have c0:=hx.cell 0;have c1:=hx.cell 1;have f0:=hx.free 0;have f1:=hx.free 1;have HFIN:=hid (hb.zeros HZA.out HL4.out);have HBB:=hid hb;have HH:=hid hh;clear hb hh hx)
     |(go_at_call 15;(with_reducible refine Calls.mono (Zso (w0:=w1) (T:=T8) (A:=A) (R:=R5) (V:=V5) (L:=(cntBox cb 1 18 3:: [trBox tb,pairBox pp A cp sp,geoBox W.heap.size])) ?_ HK.out.res HK.out.good) ?_);(focus ((repeat (first|with_reducible exact HBA.out|with_reducible refine Zbc ?_|with_reducible refine Zbt ?_));done));rintro e wb ⟨rfl,Tb,sb,hb,hh⟩;have HFIN:=hid (Zds rfl hb);have HBB:=hid hb;have HH:=hid hh;clear hb hh))
   all_goals go_wp2_with fail
   all_goals go_meet
   all_goals exact⟨_,_,_,rfl,HFIN.out,HH.out⟩
  case rest=>
   obtain⟨ub,T10,s10,rfl,hb10,hh⟩:=hcut;have p0:wc.cell? ⟨pp,0,none⟩=some (.pointer (some ⟨A.b,0,none⟩)):=(hb10.get 3 rfl).cell 0;have HB10:=hid hb10;have HH:=hid hh;have HP10:Hid (pp<wc.heap.size):=(hb10.get 3 rfl).lt;clear hb10 hh HBA
   go_wp2_with (first
    |(go_at_call 14;(with_reducible refine(Zqa HB10.out HH.out HK.out.res).mono ?_);rintro e w11 ⟨rfl,hb11⟩;clear p0;have hp:=(HB10.out.below hb11).push #[.int .i64 3,.int .i64 19,.int .i64 4] 46 (by decide) (by decide) (by decide) (by decide);have p0:(w11.alloc (.cells #[.int .i64 3,.int .i64 19,.int .i64 4] 46)).cell? ⟨pp,0,none⟩=some (.pointer (some ⟨A.b,0,none⟩)):=(hp.get 4 rfl).cell 0;have HB11:=hid hp;clear hb11 hp)
    |(go_at_call 34;(with_reducible refine(Zuw HB11.out HH.out HK.out.res HK.out.good HK.out.blk).mono ?_);rintro e w12 ⟨gi,ci,rfl,hb12,hci,hli⟩;clear p0;have hp:=HB11.out.below hb12;have n0:w12.cell? ⟨w11.heap.size,0,none⟩=some (.int .i64 3):=(hp.get 0 rfl).cell 0;have n1:w12.cell? ⟨w11.heap.size,1,none⟩=some (.int .i64 19):=(hp.get 0 rfl).cell 1;have n2:w12.cell? ⟨w11.heap.size,2,none⟩=some (.int .i64 4):=(hp.get 0 rfl).cell 2;have v0:w12.cell? ⟨ub,0,none⟩=some (.int .i64 0):=(hp.get 1 rfl).cell 0;have v1:w12.cell? ⟨ub,1,none⟩=some (.int .u16 0):=(hp.get 1 rfl).cell 1;have m0:w12.cell? ⟨cb,0,none⟩=some (.int .i64 1):=(hp.get 2 rfl).cell 0;have m1:w12.cell? ⟨cb,1,none⟩=some (.int .i64 18):=(hp.get 2 rfl).cell 1;have m2:w12.cell? ⟨cb,2,none⟩=some (.int .i64 3):=(hp.get 2 rfl).cell 2;have t0:w12.cell? ⟨tb,0,none⟩=some (.int .i64 0):=(hp.get 3 rfl).cell 0;have t1:w12.cell? ⟨tb,1,none⟩=some (.int .u16 0):=(hp.get 3 rfl).cell 1;have HB12:=hid hp;clear hb12 hp))
   go_ret;exact⟨rfl,HB1.out.trans (HB12.out.hn.bel.mono HW1.out)⟩
open Go.RowKit
structure HcP (R:RS) (V:Nat->Nat->Sec) (M C S ring:Nat) (lazy:Bool) (a b:Nat):Prop where
 good:Good R V
 idle:R.lazy=true\/R.wait= []
 bud:Bud R a b
 up:R.fr=fun _=> -1
 aside:∀q,q%3≠0->R.s.pos q=none
 M:R.M=M
 C:R.C=C
 S:R.S=S
 size:R.size=ring
 lazy:R.lazy=lazy
theorem HcP.more(h:HcP R V M C S ring lazy a b)(ha:a≤a')(hb:b≤b'):HcP R V M C S ring lazy a' b':=⟨h.good,h.idle,h.bud.mono ha hb,h.up,h.aside,h.M,h.C,h.S,h.size,h.lazy⟩
theorem HcP.next{R':RS}{V':Nat->Nat->Sec}(h:HcP R V M C S ring lazy a b)(hs:Same R R')(hg:Good R' V')(hi:R'.lazy=true\/R'.wait= [])(hb:Bud R' a' b'):HcP R' V' M C S ring lazy a' b':=
 ⟨hg,hi,hb,hs.fr.trans h.up,fun q hq=>(hs.base.aside q hq).trans (h.aside q hq),hs.M.trans h.M,hs.C.trans h.C,hs.S.trans h.S,hs.size.trans h.size,hs.lazy.trans h.lazy⟩
theorem HcP.begun(hg:geoIs M C S=true)(h5:5≤ring)(h6:ring≤2048):HcP (made0R M C S ring lazy) zeroV M C S ring lazy 10000 3000:=by
 have g4:=(Zbe hg).2.2.2;have hm:=Zey (M:=M) (C:=C) (S:=S) g4 h5 h6;refine⟨Zfb hg h5 h6 hm,.inr rfl,⟨?_,?_,?_,by show 1≤_;omega,ring+1,hm.small,by show ring+1+0≤3000;omega⟩,rfl,hm.aside,rfl,rfl,rfl,rfl,rfl⟩
 ·show(formed _ _ _ _).cnt 0≤_
  rw[hm.c0];omega
 ·show(formed _ _ _ _).cnt 1≤_
  rw[hm.c1];omega
 ·show(formed _ _ _ _).cnt 2≤_
  rw[hm.c2];omega
section
variable {w0 W:World} {T:Nat->Nat} {A:Adr} {R:RS} {V:Nat->Nat->Sec} {L:List (Nat×Array Value×TypeId)} {M C S ring:Nat} {lazy:Bool} {a b:Nat}
theorem Zut(h:Hb w0 W T A R L)(hp:HcP R V M C S ring lazy a b)(hin:Within a b)(pv:Value)(us:List (Int×List UInt8))(hu:PutSeg w0 pv us):
  Calls Tryz.prog 12 #[.pointer (some ⟨A.q,0,none⟩),pv] W fun e w'=>(∃c:Nat,e=.returned (.agg #[.int .i64 0,.int .u16 c]))/\∃T' R' V',Hb w0 w' T' A R' L/\HcP R' V' M C S ring lazy (a+1000000) (b+8*us.length+4):=by
 refine(Zwr (h.lat hp.good hp.idle) hp.bud hin pv us hu).mono ?_;rintro e w' ⟨rfl,T',R',V',hl,hs,hb,hsm,-⟩;exact⟨⟨_,rfl⟩,T',R',V',h.step hl.hn hs,hp.next hsm hl.good hl.idle hb⟩
theorem Zvo(h:Hb w0 W T A R L)(hp:HcP R V M C S ring lazy a b)(m:Nat)(hm:m<M):
  Calls Tryz.prog 13 #[.pointer (some ⟨A.q,0,none⟩),.int .i64 m,.bool true,.int .i64 0] W fun e w'=>e=.returned (.tuple #[])/\Hb w0 w' T A (R.marked m true) L:=by
 refine(Zvf h.hn m true (by rw[hp.M];exact hm)).mono ?_;rintro e w' ⟨rfl,k1,k2⟩;exact⟨rfl,h.step k1 k2⟩
theorem Zr7(h:Hb w0 W T A (R.marked m true) L)(hp:HcP R V M C S ring lazy a b)(hin:Within a b)(hw:R.wait= [])(hm:m<M)(s:Nat)(hs:s<S):
  Calls Tryz.prog 15 #[.pointer (some ⟨A.b,0,none⟩),.agg #[.int .i64 M,.int .i64 C,.int .i64 S],.pointer (some ⟨A.q,0,none⟩),.int .i64 m,.int .i64 s] W fun e w'=>e=.returned (.agg #[.int .i64 0,.int .u16 0])/\∃T' s',Hb w0 w' T' A {R.marked m true with s:=s'} L/\Healed (R.marked m true) V m (s*C) C s':=by
 have hM:(R.marked m true).M=M:=hp.M;have hC:(R.marked m true).C=C:=hp.C;have hS:(R.marked m true).S=S:=hp.S;have hdn:∀r,(R.marked m true).dn m r=true:=fun r=>by
  unfold RS.dn RS.marked;simp
 have i1:=hin.a;have i2:=hin.b;have b0:=hp.bud.c0;have b1:=hp.bud.c1;have b2:=hp.bud.c2;have k:=Zvb (h.lat (hp.good.mark hp.up m) (.inr hw)) hw m s (by rw[hM];exact hm) (by rw[hS];exact hs) (fun k _=>hdn _) ((hp.good.allUp hp.up).sub fun _ _=>trivial) (by show R.s.cnt 0≤_;omega) (by show R.s.cnt 1≤_;omega) (by show R.s.cnt 2≤_;omega) (hp.bud.small' (by omega));have e0:(.agg #[.int .i64 (R.marked m true).M,.int .i64 (R.marked m true).C,.int .i64 (R.marked m true).S]:Value)=.agg #[.int .i64 M,.int .i64 C,.int .i64 S]:=by rw[hM,hC,hS]
 rw[e0]at k;refine k.mono ?_;rintro e w' ⟨rfl,T',s',k1,k2,k3⟩;rw[hC]at k3;exact⟨rfl,T',s',h.step k1.hn k2,k3⟩
theorem Zpf(h:Hb w0 W T A (R.marked m true) L)(h0:R.s.cnt 0=x)(h1:R.s.cnt 1=y)(h2:R.s.cnt 2=z):
  Calls Tryz.prog 14 #[.pointer (some ⟨A.b,0,none⟩)] W fun e w'=>e=.returned (.agg #[.int .i64 x,.int .i64 y,.int .i64 z])/\Below W.heap.size W w':=Zg1 h.hn h0 h1 h2
theorem Zo6(h:Hb w0 W T A {R.marked m true with s:=s'} L)(hs:Healed (R.marked m true) V m q C s')(hM:R.M=M)(hP:C*(M-1)=P)(h0:R.s.cnt 0=x)(h1:R.s.cnt 1=y)(h2:R.s.cnt 2=z):
  Calls Tryz.prog 14 #[.pointer (some ⟨A.b,0,none⟩)] W fun e w'=>e=.returned (.agg #[.int .i64 (x+(P:Int)),.int .i64 (y+(C:Int)),.int .i64 (z+1)])/\Below W.heap.size W w':=by
 have e0:(R.marked m true).s.cnt 0=x:=h0;have e1:(R.marked m true).s.cnt 1=y:=h1;have e2:(R.marked m true).s.cnt 2=z:=h2;have eM:(R.marked m true).M=M:=hM;exact Zg1 h.hn (by show s'.cnt 0=_;rw[hs.c0,e0,eM,hP]) (by show s'.cnt 1=_;rw[hs.c1,e1]) (by show s'.cnt 2=_;rw[hs.c2,e2])
theorem Zqi(hp:HcP R V M C S ring lazy a b)(h:Hb w0 W T A R L):∃x y z:Int,R.s.cnt 0=x/\R.s.cnt 1=y/\R.s.cnt 2=z/\0≤x/\x≤a/\0≤y/\y≤a/\0≤z/\z≤a:=by
 obtain⟨lg,vw,X,hr⟩:=h.hn.rw;obtain⟨gs,ptr,tg,dp,hin⟩:=hr.bay;exact⟨_,_,_,rfl,rfl,rfl,hin.cl 0,hp.bud.c0,hin.cl 1,hp.bud.c1,hin.cl 2,hp.bud.c2⟩
end
end Go.Proofs.YtljjjpakcbcioaaGreat
namespace Go.Proofs.YtljjjpakcbcioaaGreat
open Go.RowKit
open Lib(hid)
variable {A:Adr} {cs:Array Value} {s s':BaySt} {lazy:Bool} {x y z:Int} {L:List (Nat×Array Value×TypeId)} {D l:List UInt8} {vs:List Value} {B C M P S a a' b b' g j k m n' q ring:Nat} {T:Nat->Nat} {V:Nat->Nat->Sec} {o:Obj} {lg:Option Nat} {R:RS} {t:TypeId} {u v v' vw:Value} {W X w w0:World}
abbrev gBox(g M C S:Nat):Nat×Array Value×TypeId:=(g,#[.int .i64 M,.int .i64 C,.int .i64 S],23)
theorem Zwe{pp cp sp:Nat}(h:LAt w0 W T A R V)(k2:At W pp (pairCells A cp sp) 39)(k3:T pp=0)(hg:At w0 g #[.int .i64 M,.int .i64 C,.int .i64 S] 23):Hb w0 W T A R [pairBox pp A cp sp,gBox g M C S]:=by
 refine⟨h.hn,fun x hx=> ?_⟩;rcases List.mem_cons.1 hx with e|e
 ·subst e
  exact⟨k2,k3,(by decide:(101:TypeId)≠39),(by decide:(3:TypeId)≠39),(by decide:(133:TypeId)≠39),(by decide:(203:TypeId)≠39)⟩
 ·rcases List.mem_cons.1 e with e|e
  ·subst e
   exact⟨hg.below h.bel hg.lt,(h.old _ hg.lt).1,(by decide:(101:TypeId)≠23),(by decide:(3:TypeId)≠23),(by decide:(133:TypeId)≠23),(by decide:(203:TypeId)≠23)⟩
  ·cases e
theorem Zyn(x y:UInt8):(((x.toNat:Nat):Int) !=((y.toNat:Nat):Int))= !decide (x=y):=by
 by_cases h:x=y
 ·subst h;simp
 ·have:¬x.toNat=y.toNat:=fun e=>h (UInt8.toNat_inj.1 e)
  have h2:¬((x.toNat:Nat):Int)=((y.toNat:Nat):Int):=by omega
  simp[h,h2]
theorem Zxm{α:Type}{l m:List α}(h:l.take k=m.take k)(hl:k<l.length)(hm:k<m.length)(he:l[k]=m[k]):l.take (k+1)=m.take (k+1):=by
 rw[List.take_succ_eq_append_getElem hl,List.take_succ_eq_append_getElem hm,h,he]
theorem Zya{T:Nat->Nat}{X:List OP}{V:Nat->Nat->Sec}(h:RwIn w T A R lg vw X)(hs:Sound R V)(b:Nat)(hb:b<R.S*R.C*(R.M-1))(hcnt:R.s.cnt 0≤999998000000)(hsm:R.s.small 1000000):
    Calls Tryz.prog 84 #[.pointer (some ⟨A.q,0,none⟩),.int .i64 b] w (SecPost w T A R lg vw X (V (membOf R.M R.C b) (rowOf R.M R.C b)) (R.rc (membOf R.M R.C b) (rowOf R.M R.C b))):=by
 have hb0:Below w.heap.size w (w.alloc (.cells #[.int .i64 0,.int .u16 0] 33)):=(Below.refl _ _).alloc (Nat.le_refl _) _;have htb:T w.heap.size=0:=Zae h.bay _ (Nat.le_refl _);have h0:=h.below hb0;have HTB:Hid (At (w.alloc (.cells #[.int .i64 0,.int .u16 0] 33)) w.heap.size #[.int .i64 0,.int .u16 0] 33):=At.new _ _ _;have L:=lies hs.geo hb;have HOF:Hid (Calls Tryz.prog 94 #[.agg #[.int .i64 R.M,.int .i64 R.C,.int .i64 R.S],.int .i64 b] (w.alloc (.cells #[.int .i64 0,.int .u16 0] 33)) fun e w'=>(∃t p:Int,e=.returned (.tuple #[placeVal t (rowOf R.M R.C b:Nat) (membOf R.M R.C b:Nat) p,.int .u16 0]))/\Below (w.alloc (.cells #[.int .i64 0,.int .u16 0] 33)).heap.size (w.alloc (.cells #[.int .i64 0,.int .u16 0] 33)) w'):=Zpr R.M R.C R.S b _ hs.geo hb;have HSE:Hid (∀W,Below (w.alloc (.cells #[.int .i64 0,.int .u16 0] 33)).heap.size (w.alloc (.cells #[.int .i64 0,.int .u16 0] 33)) W->Calls Tryz.prog 107 #[.pointer (some ⟨A.q,0,none⟩),.int .i64 (membOf R.M R.C b:Nat),.int .i64 (rowOf R.M R.C b:Nat)] W (SecPost W T A R lg vw X (V (membOf R.M R.C b) (rowOf R.M R.C b)) (R.rc (membOf R.M R.C b) (rowOf R.M R.C b)))):=fun W hW=>Zid (h0.below hW) hs _ _ L.memb L.row hcnt hsm
 have q1:(w.alloc (.cells #[.int .i64 0,.int .u16 0] 33)).cell? ⟨A.q,1,none⟩=some (.int .i64 R.M):=h0.rw.cell 1;have q2:(w.alloc (.cells #[.int .i64 0,.int .u16 0] 33)).cell? ⟨A.q,2,none⟩=some (.int .i64 R.C):=h0.rw.cell 2;have q3:(w.alloc (.cells #[.int .i64 0,.int .u16 0] 33)).cell? ⟨A.q,3,none⟩=some (.int .i64 R.S):=h0.rw.cell 3;have H:=hid h;have HBW:=hid hb0;have hqlt:=h.rw.lt; clear h hs hb0 h0 L hb; generalize hmb:membOf R.M R.C b=mb at*; generalize hrb:rowOf R.M R.C b=rb at*; generalize R.rc mb rb=cn at*; go_enter Tryz.func84,Tryz.ntmps84
 go_wp2_with (first
  |(go_at_call 94;(with_reducible refine HOF.out.mono ?_);rintro e w2 ⟨⟨t2,p2,rfl⟩,hb2⟩;have HB2:=hid hb2;have hb3:Below (w.alloc (.cells #[.int .i64 0,.int .u16 0] 33)).heap.size (w.alloc (.cells #[.int .i64 0,.int .u16 0] 33)) (w2.alloc (.cells #[.int .i64 t2,.int .i64 (rb:Nat),.int .i64 (mb:Nat),.int .i64 p2] 178)):=hb2.alloc hb2.size _;have HB3:=hid hb3;unfold placeVal;clear hb2 hb3)
  |(go_at_call 107;(with_reducible refine(HSE.out _ HB3.out).mono ?_);rintro e w6 ⟨v5,rfl,ho5,hr6,hc6⟩;have HO5:=hid (Zan ho5 (Nat.le_trans HBW.out.size HB3.out.size));have HR6:=hid hr6;have HC6:Hid (Chg (fun k=>T k≠0) (w.alloc (.cells #[.int .i64 0,.int .u16 0] 33)) w6):=Zaj (Chg.ofBelow HB3.out _) hc6 (fun q _ hq=>hq);obtain⟨a5,c5,rfl⟩:=Zab ho5;have htb6:=HTB.out.mod HC6.out (fun e=>e htb);have k0:w6.cell? ⟨w.heap.size,0,none⟩=some (.int .i64 0):=htb6.cell 0;have k1:w6.cell? ⟨w.heap.size,1,none⟩=some (.int .u16 0):=htb6.cell 1;have f0:=htb6.free 0;have f1:=htb6.free 1;have HT6:=hid htb6;clear hr6 hc6 htb6 ho5))
 have hst:Chg (fun k=>k=w.heap.size) w6 ((w6.setCell ⟨w.heap.size,0,none⟩ (.int .i64 0)).setCell ⟨w.heap.size,1,none⟩ (.int .u16 0)):=Chg.setCell (S:=fun k=>k=w.heap.size) (Chg.setCell (S:=fun k=>k=w.heap.size) (Chg.refl _ _) ⟨w.heap.size,0,none⟩ (.inl rfl) _) ⟨w.heap.size,1,none⟩ (.inl rfl) _;have hF:=(HT6.out.set 0 (.int .i64 0)).set 1 (.int .u16 0);have r0:=hF.cell 0;have r1:=hF.cell 1;have hc6:Chg (fun k=>T k≠0) w w6:=(Zaj (Chg.ofBelow HBW.out _) HC6.out (fun q _ hq=>hq));have hcF:Chg (fun k=>T k≠0) w ((w6.setCell ⟨w.heap.size,0,none⟩ (.int .i64 0)).setCell ⟨w.heap.size,1,none⟩ (.int .u16 0)):=Zaj hc6 hst (fun q hq e=>by omega);have HEND:Hid (SecPost w T A R lg vw X (V mb rb) cn (.returned (.tuple #[.slice a5 128 c5,.agg #[.int .i64 0,.int .u16 0]])) ((w6.setCell ⟨w.heap.size,0,none⟩ (.int .i64 0)).setCell ⟨w.heap.size,1,none⟩ (.int .u16 0))):=by
  refine⟨_,rfl,Zad HO5.out hst (fun q hq e=>Za4 HO5.out HT6.out (by decide) (by rw[hq,e])),H.out.turn (T':=T) (HR6.out.bay.keep hst (fun k hk e=>hk (by rw[e];exact htb))) (fun _ _=>rfl) hcF,hcF⟩
 clear hst hF hc6 hcF HT6 HO5 HR6 HC6; (try simp only [Exit.inBlock,Exit.then]); refine bodyPost_ret (v:=.tuple #[.slice a5 128 c5,.agg #[.int .i64 0,.int .u16 0]]) ?_ rfl HEND.out; rw[Zbw rfl]; go_simp; try rfl
section
variable {w0 W w':World} {T T':Nat->Nat} {A:Adr} {R R':RS} {V:Nat->Nat->Sec} {a b:Nat}
theorem Stp.ofBay(hc:Chg (fun q=>T q≠0) W w'):Stp W T A w' T:=⟨fun _ _=>rfl,hc.mono fun q e=>.inl e⟩
theorem Bud.placed(h:Bud R a b){k e1 e2:Nat}(hc:Cost R R' k (R.wait.length+e1) e2 (R.wait.length+e1) 0)(hg:R.wait.length≤512)(hw:R'.wait=[]):Bud R' (a+k+512+e1+e2) (b+e1):=by
 obtain⟨h0,h1,h2,h3,m,h4,h5⟩:=h;obtain⟨k1,k2,k3,k4,k5,-⟩:=hc;exact⟨by omega,by omega,by omega,by omega,_,k4 m h4,by rw[hw];simp;omega⟩
theorem Bud.ticks(h:Bud R a b)(c:Nat):Bud {R with s:=R.s.ticks 0 c} (a+c) b:=by
 obtain⟨h0,h1,h2,h3,m,h4,h5⟩:=h; refine⟨?_,?_,?_,by show R.next≤_;omega,m,h4,h5⟩
 ·show(R.s.ticks 0 c).cnt 0≤_
  rw[Zb7]
  omega
 ·show(R.s.ticks 0 c).cnt 1≤_
  rw[Zbo _ _ _ _ (by decide)]
  omega
 ·show(R.s.ticks 0 c).cnt 2≤_
  rw[Zbo _ _ _ _ (by decide)]
  omega
end
theorem Zyf{T:Nat->Nat}{V:Nat->Nat->Sec}(h:LAt w0 W T A R V)(hb:Bud R a b)(hin:Within a b):
    Calls Tryz.prog 29 #[.pointer (some ⟨A.q,0,none⟩)] W fun e w'=>e=.returned (.agg #[.int .i64 0,.int .u16 0])/\∃T' R',LAt w0 w' T' A R' V/\Stp W T A w' T'/\Bud R' (a+1000) b/\Same R R'/\R'.wait= []/\R'.sure=true/\(R.wait= []->R.sure=true->R'.s.cnt 0=R.s.cnt 0/\R'.s.cnt 1=R.s.cnt 1/\R'.s.cnt 2=R.s.cnt 2):=by
 obtain⟨lg,vw,X,hr⟩:=h.rw;have h1:=hin.a;have h2:=hin.b;have h31:=hb.c1;have h32:=hb.c2; refine(Zhy hr h.good.ready (by omega) (by omega) (hb.small' (by omega))).mono ?_; rintro e w' ⟨rfl,R',vw',X',hpl,T',k1,k2,k3⟩;have hst:Stp W T A w' T':=⟨k2,k3⟩; obtain⟨k4,k5⟩:=h.next hst; obtain⟨g',hw'⟩:=h.good.synced.placed hpl;have c1:=h.good.cost_synced.trans (h.good.synced.cost_placed hpl); rw[Good.synced_wait]at c1; obtain⟨-,f0,f1,f2,-,s',e'⟩:=hpl.facts h.good.synced.ready; refine⟨rfl,T',R',⟨⟨lg,vw',X',k1⟩,g',.inr hw',k4,k5⟩,hst,(hb.placed (k:=0) (e1:=0) (e2:=1) (c1.mono (by omega) (by omega) (by omega) (by omega) (by omega)) h.good.few hw').mono (by omega) (by omega),c1.same (Zgf h.good hpl),hw',by rw[e'];exact R.synced_sure,fun hw hsu=> ?_⟩;have e1:R.synced=R:=by unfold RS.synced;rw[if_pos hsu]
 rw[e1]at f0 f1 f2 hpl; obtain⟨s2,e2,L,hnd,hmem,hld⟩:=hpl.eq;have hL:L= []:=by
  rw[List.eq_nil_iff_forall_not_mem]; intro k hk; obtain⟨p,hp,-⟩:=(hmem k).1 hk; rw[hw]at hp; cases hp
 refine⟨f0,?_,f2⟩; have:=hld.c1; rw[hL]at this; rw[e2]; show s2.cnt 1=_
 rw[this]; simp
def RS.blocks(R:RS):Nat:=R.S*R.C*(R.M-1)
theorem Zx4(hg:geoIs R.M R.C R.S=true):(R.S:Int)*R.C*((R.M:Int)-1)=((R.blocks:Nat):Int):=by
 have:=(Zbe hg).1; unfold RS.blocks; rw[Int.natCast_mul,Int.natCast_mul,Int.natCast_sub (by omega)]; rfl
theorem Zxp(hg:geoIs R.M R.C R.S=true):R.blocks≤61440:=by
 obtain⟨h1,h2,h3,h4⟩:=Zbe hg;exact Nat.mul_le_mul h4 (by omega:R.M-1≤15)
def flatD(D:Nat->Sec)(n:Nat):List UInt8:=(List.range n).flatMap D
theorem Zx3(D:Nat->Sec)(n:Nat):flatD D (n+1)=flatD D n++D n:=by
 unfold flatD; rw[List.range_succ,List.flatMap_append]; simp
theorem Zxj{D:Nat->Sec}:∀{n:Nat},(∀k,k<n->(D k).length=128)->(flatD D n).length=128*n
 |0,_=>rfl
 |n+1,h=>by
  rw[Zx3,List.length_append,Zxj (fun k hk=>h k (by omega)),h n (by omega)]; omega
theorem Zxw{V:Nat->Nat->Sec}(h:Good R V)(hk:k<R.S*R.C*(R.M-1)):(blkOf R.M R.C V k).length=128:=by
 have hl:=lies h.geo hk;exact h.len _ _ hl.memb hl.row
structure RdAt (W wr:World) (T:Nat->Nat) (A:Adr) (R:RS) (lg:Option Nat) (vw:Value) (X:List OP) (D:Nat->Sec) (k:Nat) (v:Value):Prop where
  rw:∃c,c≤17*k/\RwIn wr T A {R with s:=R.s.ticks 0 c} lg vw X
  box:At wr W.heap.size #[.int .i64 R.M,.int .i64 R.C,.int .i64 R.S] 23
  own:wr.ownsRow W.heap.size 5 1 v (128*k) (ucells (flatD D k))
  chg:Chg (fun q=>T q≠0) W wr
theorem RdAt.below{wr wy:World}{T:Nat->Nat}{X:List OP}{D:Nat->Sec}(h:RdAt W wr T A R lg vw X D k v)(hb:Below wr.heap.size wr wy):RdAt W wy T A R lg vw X D k v:=by
 obtain⟨⟨c,h1,h2⟩,h3,h4,h5⟩:=h; exact⟨⟨c,h1,h2.below hb⟩,h3.below hb h3.lt,Zad h4 (Chg.ofBelow hb (fun _=>False)) (fun _ _ e=>e),h5.trans (Chg.ofBelow hb _)⟩
theorem Zyg(u v:Value)(l m:List UInt8)(w:World)(hl:l.length≤9223372036854775807)(hm:m.length≤9223372036854775807)(hu:Seg w u l)(hv:Seg w v m):
    Calls Tryz.prog 28 #[u,v] w fun e w'=>e=.returned (.bool (decide (l=m)))/\Below w.heap.size w w':=by
  obtain⟨a,c,rfl⟩:=hu.shape; obtain⟨b,d,rfl⟩:=hv.shape; by_cases hlen:l.length=m.length
  · have hne:((l.length:Int) !=(m.length:Int))=false:=by simp;omega
    go_enter Tryz.func28,Tryz.ntmps28; go_wp2_with fail; go_loopw [5] (fun i wr=>∃k:Nat,k≤l.length/\i=.int .i64 k/\l.take k=m.take k/\Below w.heap.size w wr) (fun i _=>l.length-(intOf i).toNat); case atStart=>exact⟨0,Nat.zero_le _,rfl,rfl,Below.refl _ _⟩
    case round=>
      obtain⟨k,hk,rfl,htake,hbw⟩:=hrel;have Hlen:=hid hlen;have Htake:=hid htake; clear htake hlen; by_cases hlt:k<l.length
      · have hlt':k<m.length:=by have:=Hlen.out;omega
        obtain⟨b1,o1,c1,e1,hb1,h1⟩:=Seg.full (hu.below hbw) (by omega); obtain⟨b2,o2,c2,e2,hb2,h2⟩:=Seg.full (hv.below hbw) (by omega); simp only [Value.slice.injEq]at e1 e2; obtain⟨rfl,_,rfl⟩:=e1; obtain⟨rfl,_,rfl⟩:=e2;have c1:=h1 k hlt;have c2:=h2 k hlt';have hx:=Zyn l[k] m[k]; clear h1 h2 hu hv; by_cases heq:l[k]=m[k]
        · rw[decide_eq_true heq]at hx
          have Hn:=hid (Zxm Htake.out hlt hlt' heq); generalize l[k]=x at*; generalize m[k]=y at*; clear heq; go_wp2; go_quiet (fail); go_wp2; go_roundw; case rel=>exact⟨k+1,by omega,by go_num,Hn.out,below_drewN hbw _⟩
          case measure=>simp[intOf];omega
        · rw[decide_eq_false heq]at hx
          have Hn:=hid (show decide (l=m)=false from decide_eq_false fun e=>heq (by subst e;rfl)); generalize l[k]=x at*; generalize m[k]=y at*; clear heq; go_wp2; go_quiet (fail); go_wp2; go_ret; exact⟨by rw[Hn.out];rfl,below_drewN hbw _⟩
      · have Hn := hid (show decide (l = m) = true from decide_eq_true (by
          have h:=Htake.out
          rw[List.take_of_length_le (by omega),List.take_of_length_le (by have:=Hlen.out;omega)]at h
          exact h))
        clear hu hv
        go_wp2
        go_ret
        exact⟨by rw[Hn.out];rfl,hbw⟩
  · have hne:((l.length:Int) !=(m.length:Int))=true:=by simp;omega
    have Hn:=hid (show decide (l=m)=false from decide_eq_false fun e=>hlen (by rw[e])); clear hlen hu hv; go_enter Tryz.func28,Tryz.ntmps28; go_wp2; go_ret; exact⟨by rw[Hn.out];rfl,Below.refl _ _⟩
theorem Zyc(u v:Value)(l m:List Nat)(w:World)(hl:l.length≤1000000)(hm:m.length≤1000000)(hu:ISeg w u l)(hv:ISeg w v m):
    Calls Tryz.prog 36 #[u,v] w fun e w'=>e=.returned (.bool (decide (l=m)))/\Below w.heap.size w w':=by
  obtain⟨a,c,rfl⟩:=hu.shape; obtain⟨b,d,rfl⟩:=hv.shape; by_cases hlen:l.length=m.length
  · have hne:((l.length:Int) !=(m.length:Int))=false:=by simp;omega
    go_enter Tryz.func36,Tryz.ntmps36; go_wp2_with fail; go_loopw [5] (fun i wr=>∃k:Nat,k≤l.length/\i=.int .i64 k/\l.take k=m.take k/\Below w.heap.size w wr) (fun i _=>l.length-(intOf i).toNat); case atStart=>exact⟨0,Nat.zero_le _,rfl,rfl,Below.refl _ _⟩
    case round=>
      obtain⟨k,hk,rfl,htake,hbw⟩:=hrel;have Hlen:=hid hlen;have Htake:=hid htake; clear htake hlen; by_cases hlt:k<l.length
      · have hlt':k<m.length:=by have:=Hlen.out;omega
        obtain⟨b1,o1,rfl,hb1,h1⟩:=ISeg.full (hu.below hbw) (by omega); obtain⟨b2,o2,rfl,hb2,h2⟩:=ISeg.full (hv.below hbw) (by omega);have c1:=h1 k hlt;have c2:=h2 k hlt'; clear h1 h2 hu hv; by_cases heq:l[k]=m[k]
        · have hx:(((l[k]:Nat):Int) !=((m[k]:Nat):Int))=false:=by rw[heq];simp
          have Hn:=hid (Zxm Htake.out hlt hlt' heq); generalize l[k]=x at*; generalize m[k]=y at*; clear heq; go_wp2; go_quiet (fail); go_wp2; go_roundw; case rel=>exact⟨k+1,by omega,by go_num,Hn.out,below_drewN hbw _⟩
          case measure=>simp[intOf];omega
        · have hx:(((l[k]:Nat):Int) !=((m[k]:Nat):Int))=true:=by simp only [bne_iff_ne,ne_eq];omega
          have Hn:=hid (show decide (l=m)=false from decide_eq_false fun e=>heq (by subst e;rfl)); generalize l[k]=x at*; generalize m[k]=y at*; clear heq; go_wp2; go_quiet (fail); go_wp2; go_ret; exact⟨by rw[Hn.out];rfl,below_drewN hbw _⟩
      · have Hn := hid (show decide (l = m) = true from decide_eq_true (by
          have h:=Htake.out
          rw[List.take_of_length_le (by omega),List.take_of_length_le (by have:=Hlen.out;omega)]at h
          exact h))
        clear hu hv
        go_wp2
        go_ret
        exact⟨by rw[Hn.out];rfl,hbw⟩
  · have hne:((l.length:Int) !=(m.length:Int))=true:=by simp;omega
    have Hn:=hid (show decide (l=m)=false from decide_eq_false fun e=>hlen (by rw[e])); clear hlen hu hv; go_enter Tryz.func36,Tryz.ntmps36; go_wp2; go_ret; exact⟨by rw[Hn.out];rfl,Below.refl _ _⟩
theorem Zxo{n:Nat}(h:w.ownsRow B 5 1 v n (ucells l)):Seg w v l:=by
  have hl:l.length=n:=by
    have:=h.1; rw[Zag]at this; omega
  subst hl;exact Zao (base:=B) h
theorem Zyk(hl:l.length≤9223372036854775807)(hu:Seg w u l)(hv:Seg w v l):
    Calls Tryz.prog 28 #[u,v] w fun e w'=>e=.returned (.bool true)/\Below w.heap.size w w':=
  (Zyg u v l l w hl hl hu hv).mono fun e w' ⟨x1,x2⟩=>⟨by rw[x1];simp,x2⟩
def allOf(R:RS)(V:Nat->Nat->Sec):List UInt8:=flatD (blkOf R.M R.C V) R.blocks
theorem Zxl{V:Nat->Nat->Sec}(h:Good R V):(allOf R V).length=128*R.blocks:=Zxj (fun k hk=>Zxw h hk)
theorem Zx6{V:Nat->Nat->Sec}(h:Good R V):(allOf R V).length≤7864320:=by
  rw[Zxl h]; have:=Zxp h.geo; omega
theorem Zxk{l:List Nat}(h:w.ownsRow B 3 1 v l.length (kcells l)):ISeg w v l:=by
  obtain⟨a,c,rfl⟩:=Zab h; refine⟨a,c,rfl,?_⟩; by_cases hl:l.length=0
  · exact .inl (List.eq_nil_of_length_eq_zero hl)
  · obtain⟨g,cap,hv,hB,hg,hc,-⟩:=Zb2 h (by omega)
    simp only [Value.slice.injEq]at hv; obtain⟨rfl,-,rfl⟩:=hv;exact .inr ⟨g,0,rfl,hg,fun j hj=>by rw[Nat.zero_add,hc j hj,Zlr l j hj]⟩
theorem Zxz:SliceOf Tryz.prog 57 3 1 8:=SliceOf.mk' (z:=.int .i64 0) Tryz.underlying57 (by decide) (by kernel_rfl) rfl
theorem Zxx(l:List Nat)(k:Nat):kcells (l++ [k])=kcells l++ [.int .i64 (k:Int)]:=by simp[kcells]
theorem Zxt(T:Nat->Nat)(t p:Nat)(d:Dsk)(w:World)(h:DiskAt w T t p d)(hm:d.cache.length≤1000000):
    Calls Tryz.prog 87 #[.pointer (some ⟨p,0,none⟩)] w fun e w'=>∃v,e=.returned v/\w'.ownsRow w.heap.size 3 1 v d.cache.length (kcells (d.cache.map (·.1)))/\Below w.heap.size w w':=by
  obtain⟨gl,gm,cv,f,h1,h2,h3,h4,h5,h6,h7,h8⟩:=h.at'; obtain⟨ca,cc,rfl⟩:=Zab h3;have c1:w.cell? ⟨p,1,none⟩=some (.slice ca d.cache.length cc):=h1.cell 1;have H3:=hid h3;have HC:=hid h.clen; clear h h1 h2 h3 h4 h5 h6 h7 h8; go_enter Tryz.func87,Tryz.ntmps87; go_wp2; go_loopw [3,11] (fun o q wr=>∃i:Nat,i≤d.cache.length/\q=.int .i64 i/\wr.ownsRow w.heap.size 3 1 o i (kcells ((d.cache.take i).map (·.1)))/\Below w.heap.size w wr) (fun _ q _=>d.cache.length-(intOf q).toNat); case atStart=>exact⟨0,by omega,rfl,World.ownsRow_nil _ _ _ _,Below.refl _ _⟩
  case round=>
    obtain⟨i,hi,rfl,ho,hb⟩:=hrel; obtain⟨oa,oc,rfl⟩:=Zab ho;have HO:=hid ho;have HB:=hid hb;have hz:=hb.size; by_cases hin:i<d.cache.length
    · have h3r:=Zad H3.out (Chg.ofBelow hb (fun _=>False)) (fun _ _ e=>e)
      obtain⟨gc,cc',hve,_,hgcl⟩:=Zas h3r (by omega); simp only [Value.slice.injEq]at hve; obtain⟨rfl,_,rfl⟩:=hve;have hcl:=HC.out _ (List.getElem_mem hin);have HNX:Hid (kcells ((d.cache.take (i+1)).map (·.1))=kcells ((d.cache.take i).map (·.1))++ [.int .i64 (((d.cache[i]'hin).1:Nat):Int)]):=by
        show _=_
        rw[List.take_succ_eq_append_getElem hin,List.map_append,List.map_singleton,Zxx]
      have hrw:wr.rangeAt gc (i*129) (wcell (d.cache[i]'hin)):=fun j u hj=>by
        have hj2:j<129:=by have:=(List.getElem?_eq_some_iff.1 hj).1;rwa [Zc6 hcl]at this
        rw[h3r.cellAt (i*129+j) (by omega),Zhl HC.out i j hin hj2,hj]
      have HRW:=hid hrw;have hwl:=Zc6 hcl;have K1:Hid (i+1≤d.cache.length):=hin; clear hrw h3r ho hb; generalize (d.cache[i]'hin)=x at*; obtain⟨a,s⟩:=x;have b0:(wr.alloc (.cells (wcell (a,s)).toArray 232)).cell? ⟨wr.heap.size,0,none⟩=some (.int .i64 (a:Int)):=(At.new wr (wcell (a,s)).toArray 232).cell 0;have hza:(wr.alloc (.cells (wcell (a,s)).toArray 232)).heap.size=wr.heap.size+1:=Zaa _ _;have HOA:=hid (World.ownsRow.alloc HO.out (.cells (wcell (a,s)).toArray 232));have HBA:Hid (Below w.heap.size w (wr.alloc (.cells (wcell (a,s)).toArray 232))):=HB.out.alloc hz _
      go_wp2_with (first
        |(refine wpList_load_mid rfl 232 _ rfl gc (i*129) rfl (wcell (a,s)) _ HRW.out Tryz.underlying232 rfl (by rw[hwl];exact Zb0) ?_)
        |(refine Zbg rfl 232 rfl wzero Zej ?_)
        |(refine Za3 rfl 232 _ _ rfl wzero (wcell (a,s)).toArray rfl rfl (by rw[List.size_toArray,hwl];exact Zb0) (Zec.trans (by rw[List.size_toArray,hwl])) (all_oneCell_toArray (Zfn (a,s))) ?_)
        |(refine Zay rfl _ _ 57 3 8 rfl Zxz w.heap.size _ i _ rfl HOA.out _ rfl (by rw[hza];rfl) (by unfold maxLen;omega) (by omega) (by rw[hza];omega) ?_;intro v' w5 hown5 hb5 hgr5))
      refine⟨⟨i+1,K1.out,by go_num,?_,HBA.out.trans hb5⟩,by simp[intOf];omega⟩; rw[HNX.out];exact hown5
    · obtain rfl:i=d.cache.length:=by omega
      have HT:Hid (d.cache.take d.cache.length=d.cache):=List.take_length; rw[HT.out]at HO; go_wp2; go_ret; exact⟨_,rfl,HO.out,HB.out⟩
theorem Zxy{T:Nat->Nat}(h:BayAt w T b s)(k:Nat)(hk:k<s.n){x:Dev}(hx:s.pos (k*3)=some x)(hm:x.d.cache.length≤1000000):
    Calls Tryz.prog 35 #[.pointer (some ⟨b,0,none⟩),.int .i64 k] w fun e w'=>∃v,e=.returned v/\w'.ownsRow w.heap.size 3 1 v x.d.cache.length (kcells (x.d.cache.map (·.1)))/\Below w.heap.size w w':=by
  obtain⟨gs,ptr,tg,dp,h⟩:=h; obtain⟨dv,hp,hD⟩:=h.some' (k*3) (by omega) x hx;have hin:=hid (Zve h k hk); rw[hp]at hin; unfold pcell at hin;have d0:w.cell? ⟨dv,0,none⟩=some (.pointer (some ⟨dp (k*3),0,none⟩)):=hD.dev.cell 0;have HF:=hid (Zxt T (tg (k*3)) (dp (k*3)) x.d w hD.disk hm); clear h hp hD hx hm; generalize dp (k*3)=gd at*; go_enter Tryz.func35,Tryz.ntmps35
  go_wp2_with (first
    |(go_at_call 86;(with_reducible refine hin.out.mono ?_);rintro e w1 ⟨rfl,hw⟩;subst hw)
    |(go_at_call 87;(with_reducible refine HF.out.mono ?_);rintro e w2 ⟨v,rfl,ho,hb⟩;obtain⟨xa,xc,rfl⟩:=Zab ho;have HO:=hid ho;have HB:=hid hb;clear ho hb))
  go_ret; exact⟨_,rfl,HO.out,HB.out⟩
theorem Zx8{T:Nat->Nat}{V:Nat->Nat->Sec}(h:LAt w0 W T A R V)(hb:Bud R a b)(hin:Within (a+2000000) b):
    Calls Tryz.prog 32 #[.pointer (some ⟨A.q,0,none⟩),geo R.M R.C R.S] W fun e w'=>∃v c,e=.returned (.tuple #[v,.bool true])/\w'.ownsRow W.heap.size 5 1 v (128*R.blocks) (ucells (flatD (blkOf R.M R.C V) R.blocks))/\LAt w0 w' T A {R with s:=R.s.ticks 0 c} V/\Chg (fun q=>T q≠0) W w'/\c≤1044480:=by
  obtain⟨lg,vw,X,hr⟩:=h.rw;have hg:=h.good.geo;have hbl:=Zx4 hg;have hbf:=Zxp hg;have hlow:=hr.low;have hM:=(Zbe hg).2.1;have hb0:Below W.heap.size W (W.alloc (.cells #[.int .i64 R.M,.int .i64 R.C,.int .i64 R.S] 23)):=(Below.refl _ _).alloc (Nat.le_refl _) _;have HB:Hid (∀w,Calls Tryz.prog 39 #[.agg #[.int .i64 R.M,.int .i64 R.C,.int .i64 R.S]] w fun e w'=>e=.returned (.int .i64 (R.blocks:Nat))/\Below w.heap.size w w'):=fun w=>by
    have:=Zpb R.M R.C R.S w hg; rw[hbl]at this;exact this
  have HV:Hid (∀q,W.heap.size≤q->T q=0):=fun q hq=>Zae hr.bay q hq
  have HRD:Hid (∀k w v,k<R.blocks->RdAt W w T A R lg vw X (blkOf R.M R.C V) k v->Calls Tryz.prog 84 #[.pointer (some ⟨A.q,0,none⟩),.int .i64 k] w fun e w'=>∃x xc,e=.returned (.tuple #[.slice (some ⟨x,0,none⟩) 128 xc,.agg #[.int .i64 0,.int .u16 0]])/\w'.ownsRow w.heap.size 5 1 (.slice (some ⟨x,0,none⟩) 128 xc) 128 (ucells (blkOf R.M R.C V k))/\(∃c,c≤17*(k+1)/\RwIn w' T A {R with s:=R.s.ticks 0 c} lg vw X)/\At w' W.heap.size #[.int .i64 R.M,.int .i64 R.C,.int .i64 R.S] 23/\w'.ownsRow W.heap.size 5 1 v (128*k) (ucells (flatD (blkOf R.M R.C V) k))/\Chg (fun q=>T q≠0) W w'):=fun k w v hk hd=>by
    obtain⟨⟨c,hc,hrw⟩,hbx,hown,hchg⟩:=hd;have h1:=hin.a;have h2:=hin.b;have h3:=hb.c0;have hcn:(R.s.ticks 0 c).cnt 0≤999998000000:=by rw[Zb7];omega
    refine(Zya (R:={R with s:=R.s.ticks 0 c}) hrw (h.good.ticks c).sound k hk hcn (hb.small' (by omega))).mono ?_; rintro e w' ⟨v',rfl,k1,k2,k3⟩; obtain⟨x,xc,rfl,-,-⟩:=Zas k1 (by omega); refine⟨x,xc,rfl,k1,⟨c+RS.rc {R with s:=R.s.ticks 0 c} (membOf R.M R.C k) (rowOf R.M R.C k),?_,?_⟩,hbx.mod k3 (fun e=>e (HV.out _ (Nat.le_refl _))),Zad hown k3 (fun g hg e=>e (HV.out g (hown.lt g hg).1)),hchg.trans k3⟩
    · have:=RS.rc_le {R with s:=R.s.ticks 0 c} (membOf R.M R.C k) (rowOf R.M R.C k)
      have e:({R with s:=R.s.ticks 0 c}:RS).M=R.M:=rfl; omega
    · rw[<- Zeu]
      exact k2
  have HLN:Hid (∀k,k<R.blocks->(blkOf R.M R.C V k).length=128):=fun k hk=>Zxw h.good hk
  have HFL:Hid (∀k,k≤R.blocks->(flatD (blkOf R.M R.C V) k).length=128*k):=fun k hk=>Zxj (fun j hj=>Zxw h.good (show j<R.blocks by omega))
  have HI:Hid (RdAt W (W.alloc (.cells #[.int .i64 R.M,.int .i64 R.C,.int .i64 R.S] 23)) T A R lg vw X (blkOf R.M R.C V) 0 (.slice none 0 0)):=⟨⟨0,by omega,by rw[Zei];exact hr.below hb0⟩,At.new _ _ _,World.ownsRow_nil _ _ _ _,Chg.ofBelow hb0 _⟩;have HFIN:Hid (∀w' v,RdAt W w' T A R lg vw X (blkOf R.M R.C V) R.blocks v->∃c,w'.ownsRow W.heap.size 5 1 v (128*R.blocks) (ucells (flatD (blkOf R.M R.C V) R.blocks))/\LAt w0 w' T A {R with s:=R.s.ticks 0 c} V/\Chg (fun q=>T q≠0) W w'/\c≤1044480):=fun w' v hd=>by
    obtain⟨⟨c,hc,hrw⟩,hbx,hown,hchg⟩:=hd; obtain⟨k4,k5⟩:=h.next (Stp.ofBay (A:=A) hchg); exact⟨c,hown,⟨⟨lg,vw,X,hrw⟩,h.good.ticks c,h.idle,k4,k5⟩,hchg,by omega⟩
  clear hr h hb hin hg hbl hb0 hM; generalize blkOf R.M R.C V=D at*; generalize R.blocks=B at*; unfold geo; go_enter Tryz.func32,Tryz.ntmps32; go_wp2; go_loopw [6,7] (fun v q wr=>∃k:Nat,k≤B/\q=.int .i64 k/\RdAt W wr T A R lg vw X D k v) (fun _ q _=>B-(intOf q).toNat); case atStart=>exact⟨0,by omega,rfl,HI.out⟩
  case round=>
    obtain⟨k,hk,rfl,hrd⟩:=hrel;have c0:=hrd.box.cell 0;have c1:=hrd.box.cell 1;have c2:=hrd.box.cell 2;have hzl:=hrd.box.lt;have HR:=hid hrd; clear hrd; by_cases hkB:k<B
    · have K1:Hid (k+1≤B):=hkB
      go_wp2_with (first
        |(go_at_call 39;(with_reducible refine(HB.out _).mono ?_);rintro e w2 ⟨rfl,hb2⟩;have HR2:=hid (HR.out.below hb2);clear hb2)
        |(go_at_call 84;(with_reducible refine(HRD.out k w2 _ hkB HR2.out).mono ?_);rintro e w3 ⟨x,xc,rfl,hx,hrw3,hbx3,hown3,hchg3⟩;have HX3:=hid hx;have HRW3:=hid hrw3;have HBX3:=hid hbx3;have HOW3:=hid hown3;have HCH3:=hid hchg3;have hN:=At.new w3 #[.int .i64 0,.int .u16 0] 33;have m0:=hN.cell 0;have m1:=hN.cell 1;clear hx hrw3 hbx3 hown3 hchg3 hN)
        |(refine Zbb rfl _ _ 51 5 1 1 rfl Zat W.heap.size u6 (128*k) _ rfl (World.ownsRow.alloc HOW3.out _) (some ⟨x,0,none⟩) 128 xc (ucells (D k)) rfl (by rw[Zag,HLN.out k hkB]) (fun e=>by cases e) (fun ad e=>by simp only [Option.some.injEq]at e;subst e;exact(World.ownsRow.alloc HX3.out _).cells rfl) (Za8 _) (by unfold maxLen;omega) (by omega) (Nat.le_trans HCH3.out.size (by rw[Zaa];omega)) ?_;intro v' w5 hown5 hb5 hg5;have HO5:=hid hown5;have HG5:=hid hg5;clear hown5 hb5 hg5))
      have hc5:Chg (fun q=>u6.ownBlock=some q) (w3.alloc (.cells #[.int .i64 0,.int .u16 0] 33)) w5:=Chg.ofGrown HG5.out (fun q hq=>.inl hq);have hal:Below w3.heap.size w3 (w3.alloc (.cells #[.int .i64 0,.int .u16 0] 33)):=(Below.refl _ _).alloc (Nat.le_refl _) _; obtain⟨c,hc,hrw⟩:=HRW3.out; refine⟨⟨k+1,K1.out,by go_num,⟨⟨c,hc,(hrw.below hal).apart hlow hc5 (fun q hq=>⟨HV.out q (HOW3.out.lt q hq).1,(HOW3.out.lt q hq).1⟩)⟩,(HBX3.out.alloc _).mod hc5 (Zah HOW3.out HBX3.out (by decide)),?_,Zaj (HCH3.out.trans (Chg.ofBelow hal _)) hc5 (fun q hq e=>by have:=(HOW3.out.lt q e).1;omega)⟩⟩,by simp[intOf];omega⟩; rw[Zx3,show 128*(k+1)=128*k+128 by omega,show ucells (flatD D k++D k)=ucells (flatD D k)++ucells (D k) by simp[ucells]];exact HO5.out
    · obtain rfl:k=B:=by omega
      go_wp2_with (first
        |(go_at_call 39;(with_reducible refine(HB.out _).mono ?_);rintro e w2 ⟨rfl,hb2⟩;have HR2:=hid (HR.out.below hb2);clear hb2))
      go_ret2; obtain⟨c,g1,g2,g3,g4⟩:=HFIN.out _ _ HR2.out; exact⟨_,c,rfl,g1,g2,g3,g4⟩
structure OwnT (W:World) (T:Nat->Nat) (n:Nat) (e:TypeId) (v:Value) (xs:List Value):Prop where
  own:W.ownsRow n e 1 v xs.length xs
  tag:∀g,v.ownBlock=some g->T g=0
section
variable {W W':World} {T T':Nat->Nat} {n:Nat} {e ei eu:TypeId} {v u x:Value} {xs ys:List Value} {A:Adr} {S:Nat->Prop} {k:Nat} {F:Nat->List Value}
theorem OwnT.mod(h:OwnT W T n e v xs)(hc:Chg S W W')(hS:∀g,v.ownBlock=some g->¬S g)(hT:∀q,q<W.heap.size->T' q=T q):OwnT W' T' n e v xs:=
  ⟨Zad h.own hc hS,fun g hg=>(hT g (h.own.lt g hg).2).trans (h.tag g hg)⟩
theorem OwnT.below(h:OwnT W T n e v xs)(hb:Below W.heap.size W W'):OwnT W' T n e v xs:=h.mod (Chg.ofBelow hb (fun _=>False)) (fun _ _ e=>e) (fun _ _=>rfl)
theorem OwnT.drew(h:OwnT W T n e v xs):OwnT W.drew T n e v xs:=h.below (Below.refl _ _).drew
theorem OwnT.step(h:OwnT W T n e v xs)(s:Stp W T A W' T')(hA:∀q,A.has q->q<n):OwnT W' T' n e v xs:=
  h.mod s.chg (fun g hg e=>e.elim (fun e=>e (h.tag g hg)) fun e=>by have:=hA g e;have:=(h.own.lt g hg).1;omega) s.tags
theorem OwnT.mono(h:OwnT W T n e v xs)(hm:m≤n):OwnT W T m e v xs:=⟨h.own.mono hm,h.tag⟩
theorem Zx5(h:W.ownsRow n e 1 v k xs)(hg:v.ownBlock=some g):∃cs,At W g cs e:=by
  rcases h.2 with ⟨rfl,_⟩|⟨g',cap,cur,rfl,_,hb,_⟩
  · cases hg
  · simp only [Value.ownBlock,Option.some.injEq]at hg
    subst hg; exact⟨cur,hb⟩
theorem Zxh(h:OwnT W T n e v xs)(hu:OwnT W T n eu u ys)(hne:e≠eu)(hg:v.ownBlock=some g):u.ownBlock≠some g:=fun e2=>by
  obtain⟨cs,ha⟩:=Zx5 hu.own e2;exact Zah h.own ha hne hg
structure OwnTs (W:World) (T:Nat->Nat) (n:Nat) (e ei:TypeId) (v:Value) (k:Nat) (F:Nat->List Value):Prop where
  ex:∃vs:List Value,vs.length=k/\OwnT W T n e v vs/\∀j (h:j<vs.length),OwnT W T n ei (vs[j]'h) (F j)
theorem OwnTs.nil(W:World)(T:Nat->Nat)(n:Nat)(e ei:TypeId)(F:Nat->List Value):OwnTs W T n e ei (.slice none 0 0) 0 F:=
  ⟨⟨[],rfl,⟨World.ownsRow_nil _ _ _ _,fun g hg=>(by cases hg)⟩,fun j hj=>(by cases hj)⟩⟩
theorem OwnTs.below(h:OwnTs W T n e ei v k F)(hb:Below W.heap.size W W'):OwnTs W' T n e ei v k F:=by
  obtain⟨vs,h1,h2,h3⟩:=h.ex; exact⟨⟨vs,h1,h2.below hb,fun j hj=>(h3 j hj).below hb⟩⟩
theorem OwnTs.step(h:OwnTs W T n e ei v k F)(s:Stp W T A W' T')(hA:∀q,A.has q->q<n):OwnTs W' T' n e ei v k F:=by
  obtain⟨vs,h1,h2,h3⟩:=h.ex; exact⟨⟨vs,h1,h2.step s hA,fun j hj=>(h3 j hj).step s hA⟩⟩
theorem OwnTs.off(h:OwnTs W T n e ei v k F)(hu:OwnT W T n eu u ys)(hc:Chg (fun q=>u.ownBlock=some q) W W')(h1:e≠eu)(h2:ei≠eu):OwnTs W' T n e ei v k F:=by
  obtain⟨vs,k1,k2,k3⟩:=h.ex; exact⟨⟨vs,k1,k2.mod hc (fun g hg=>Zxh k2 hu h1 hg) (fun _ _=>rfl),fun j hj=>(k3 j hj).mod hc (fun g hg=>Zxh (k3 j hj) hu h2 hg) (fun _ _=>rfl)⟩⟩
theorem OwnTs.push(h2:OwnT W T n e v vs)(h3:∀j (h:j<vs.length),OwnT W T n ei (vs[j]'h) (F j))(hx:OwnT W T n ei x (F vs.length))(hne:ei≠e)(hV:∀q,W.heap.size≤q->T q=0)(ho:W'.ownsRow n e 1 v' (vs.length+1) (vs++ [x]))(hb:v'.ownBlock=v.ownBlock\/v'.ownBlock=some W.heap.size)(hc:Chg (fun q=>v.ownBlock=some q) W W'):OwnTs W' T n e ei v' (vs.length+1) F:=by
  refine⟨⟨vs++ [x],by simp,⟨by simpa using ho,fun g hg=> ?_⟩,fun j hj=> ?_⟩⟩
  · rcases hb with hb|hb
    · exact h2.tag g (hb.symm.trans hg)
    · obtain rfl:=Option.some.inj (hb.symm.trans hg)
      exact hV _ (Nat.le_refl _)
  · by_cases hl:j<vs.length
    · rw[List.getElem_append_left hl]
      exact(h3 j hl).mod hc (fun g hg=>Zxh (h3 j hl) h2 hne hg) (fun _ _=>rfl)
    · obtain rfl:j=vs.length:=by simp at hj;omega
      rw[List.getElem_append_right (Nat.le_refl _)]; simp only [Nat.sub_self,List.getElem_cons_zero];exact hx.mod hc (fun g hg=>Zxh hx h2 hne hg) (fun _ _=>rfl)
theorem OwnTs.shape(h:OwnTs W T n e ei v k F)(hk:0<k):∃g c,v=.slice (some ⟨g,0,none⟩) k c:=by
  obtain⟨vs,rfl,h2,h3⟩:=h.ex; obtain⟨g,c,rfl,-,-⟩:=Zas h2.own hk; exact⟨g,c,rfl⟩
theorem OwnTs.at{c:Nat}(h:OwnTs W T n e ei (.slice (some ⟨g,0,none⟩) m c) k F)(j:Nat)(hj:j<k):∃x,W.cell? ⟨g,j,none⟩=some x/\g<W.heap.size/\OwnT W T n ei x (F j):=by
  obtain⟨vs,rfl,h2,h3⟩:=h.ex; have:=h2.own.cells (g:=g) rfl j (vs[j]'hj) (List.getElem?_eq_getElem hj); rw[Go.WideShapes.add_plain,Nat.zero_add]at this; exact⟨_,this,(h2.own.lt g rfl).2,h3 j hj⟩
theorem OwnTs.open(h:OwnTs W T n e ei v k F):∃vs:List Value,vs.length=k/\W.ownsRow n e 1 v k vs/\OwnT W T n e v vs/\∀j (h:j<vs.length),OwnT W T n ei (vs[j]'h) (F j):=by
  obtain⟨vs,rfl,h2,h3⟩:=h.ex; exact⟨vs,rfl,h2.own,h2,h3⟩
theorem OwnTs.push'(hl:vs.length=k)(h2:OwnT W T n e v vs)(h3:∀j (h:j<vs.length),OwnT W T n ei (vs[j]'h) (F j))(hx:OwnT W T n ei x (F k))(hne:ei≠e)(hV:∀q,W.heap.size≤q->T q=0)(ho:W'.ownsRow n e 1 v' (k+1) (vs++ [x]))(hb:v'.ownBlock=v.ownBlock\/v'.ownBlock=some W.heap.size)(hc:Chg (fun q=>v.ownBlock=some q) W W'):OwnTs W' T n e ei v' (k+1) F:=by
  subst hl;exact OwnTs.push h2 h3 hx hne hV ho hb hc
theorem Zyb(W:World)(x:Value)(t:TypeId):∀j u,[x][j]?=some u->(W.alloc (.cells #[x] t)).cell? ((⟨W.heap.size,0,none⟩:Addr).add j)=some u:=by
  intro j u hj; rw[Go.WideShapes.add_plain,Nat.zero_add,(At.new W #[x] t).cell j,List.getElem?_toArray];exact hj
end
def imgB(s:BaySt)(j:Nat):List UInt8:=match s.pos (j*3)with|some x=>x.d.last.flatten|none=> []
def cacheK(s:BaySt)(j:Nat):List Nat:=match s.pos (j*3)with|some x=>x.d.cache.map (·.1)|none=> []
theorem Zye(h:s'.pos (j*3)=s.pos (j*3)):imgB s' j=imgB s j:=by unfold imgB;rw[h]
theorem Zx2(h:s'.pos (j*3)=s.pos (j*3)):cacheK s' j=cacheK s j:=by unfold cacheK;rw[h]
theorem Zx1{G:Nat->Prop}{sz:Nat->Nat}(hf:Fit s G sz)(hm:m<s.n)(hg:G m)(hd:s.dry m):∃L:List Sec,imgB s m=L.flatten/\L.length=sz m/\∀z,z<sz m->L[z]?=some (s.sec m z):=by
  obtain⟨L,h1,h2,-,h4⟩:=Zrc hf hm hg hd; obtain⟨x,hx,hc⟩:=hf.dev m hm hg; rw[Zpl hm hx,if_neg (by rw[hc.failed];simp)]at h1; refine⟨L,?_,h2,h4⟩;have e:x.d.last=L:=Option.some.inj (congrArg Prod.snd h1); unfold imgB; rw[hx,<- e]
structure HoP (R:RS) (V:Nat->Nat->Sec) (M C S m a b:Nat):Prop where
  good:Good R V
  wait:R.wait= []
  bud:Bud R a b
  fit:Fit R.s (fun _=>True) R.szs
  down:∀r,R.dn m r=true
  m:m<M
  M:R.M=M
  C:R.C=C
  S:R.S=S
section
variable {R:RS} {V:Nat->Nat->Sec} {M C S m a b:Nat}
theorem HoP.n(h:HoP R V M C S m a b):R.s.n=M+1:=by rw[h.good.n,h.M]
theorem HoP.anew(h:HcP R V M C S ring lazy a b)(hw:R.wait= [])(hm:m<M):HoP (R.anew m) V M C S m a b:=by
  obtain⟨g1,g2,g3⟩:=h.good.anew h.up (m:=m) (by rw[h.M];exact hm); obtain⟨b0,b1,b2,b3,x,b4,b5⟩:=h.bud; refine⟨g1,hw,⟨b0,b1,b2,b3,x,fun i hi y hy=> ?_,b5⟩,g2,g3,hm,h.M,h.C,h.S⟩; change (if i=m*3 then some _ else R.s.pos i)=some y at hy; by_cases e:i=m*3
  · rw[if_pos e]at hy
    simp only [Option.some.injEq]at hy; subst hy;exact Nat.zero_le _
  · rw[if_neg e]at hy
    exact b4 i hi y hy
theorem HoP.ticks(h:HoP R V M C S m a b)(c:Nat):HoP {R with s:=R.s.ticks 0 c} V M C S m (a+c) b:=
  ⟨h.good.ticks c,h.wait,h.bud.ticks c,h.fit.ticks 0 c,h.down,h.m,h.M,h.C,h.S⟩
theorem HoP.mono(h:HoP R V M C S m a b)(ha:a≤a')(hb:b≤b'):HoP R V M C S m a' b':=
  ⟨h.good,h.wait,h.bud.mono ha hb,h.fit,h.down,h.m,h.M,h.C,h.S⟩
theorem HoP.healed(h:HoP R V M C S m a b)(k:Healed R V m q C s'):HoP {R with s:=s'} V M C S m (a+1000) (b+16):=by
  have hp:=Zbe h.good.geo;have hgi:=(Zam R.M R.C R.S).1 h.good.geo;have hM:=h.M;have hC:=h.C;have hP:C*(R.M-1)≤16*16:=Nat.mul_le_mul (by omega) (by omega); obtain⟨b0,b1,b2,b3,x,b4,b5⟩:=h.bud;have k0:=k.c0;have k1:=k.c1;have k2:=k.c2; refine⟨k.good h.good fun j _=>h.down _,h.wait,⟨?_,?_,?_,?_,x+C,k.small x b4,?_⟩,⟨k.fit.dark,k.fit.trip,fun j hj _=> ?_⟩,h.down,h.m,h.M,h.C,h.S⟩
  · show s'.cnt 0≤_;omega
  · show s'.cnt 1≤_;omega
  · show s'.cnt 2≤_;omega
  · show R.next≤_;omega
  · show x+C+R.wait.length≤_;omega
  · by_cases e:j=m
    · exact k.fit.dev j hj (.inr e)
    · rw[k.pos (j*3) (by omega)]
      have hj':j<s'.n:=hj;exact h.fit.dev j (by rw[<- k.n];exact hj') trivial
theorem HoP.twice{s1 s2:BaySt}(h:HoP R V M C S m a b)(k1:Healed R V m q C s1)(k2:Healed {R with s:=s1} V m q C s2):imgB s2 m=imgB s1 m:=by
  have hn:m<R.s.n:=by rw[h.n];have:=h.m;omega
  have hz:R.szs m=1+R.S*R.C:=by unfold RS.szs;rw[if_pos (by rw[h.M];exact h.m)]
  obtain⟨L1,a1,a2,a3⟩:=Zx1 k1.fit (by rw[k1.n];exact hn) (.inr rfl) k1.dry; obtain⟨L2,b1,b2,b3⟩:=Zx1 k2.fit (by rw[k2.n];show m<s1.n;rw[k1.n];exact hn) (.inr rfl) k2.dry;have e2:({R with s:=s1}:RS).szs m=R.szs m:=rfl; rw[e2]at b2 b3;have e:L2=L1:=List.ext_getElem? fun z=>by
    by_cases hlt:z<R.szs m
    · rw[a3 z hlt,b3 z hlt,k2.sec z (by rw[hz]at hlt;exact hlt)]
      show some (if q+1≤z/\z<q+1+C then V m (z-1)else s1.sec m z)=_
      rw[k1.sec z (by rw[hz]at hlt;exact hlt)]; split<;>rfl
    · rw[List.getElem?_eq_none (by omega),List.getElem?_eq_none (by omega)]
  rw[a1,b1,e]
end
section
variable {w0 W W':World} {T T':Nat->Nat} {A:Adr} {R:RS} {V:Nat->Nat->Sec} {L:List (Nat×Array Value×TypeId)} {M C S m a b:Nat}
structure Lo (w0 W:World) (T:Nat->Nat) (A:Adr) (R:RS) (n:Nat) (lg:Option Nat) (vw:Value) (X:List OP) (L:List (Nat×Array Value×TypeId)):Prop where
  hb:Hb w0 W T A R L
  rw:RwIn W T A R lg vw X
  low:RwLow A vw X n
  box:∀x∈L,x.1<n
  le:w0.heap.size≤n
  sz:n≤W.heap.size
theorem Hb.lo(h:Hb w0 W T A R L):∃lg vw X,Lo w0 W T A R W.heap.size lg vw X L:=by
  obtain⟨lg,vw,X,hr⟩:=h.hn.rw; exact⟨lg,vw,X,h,hr,hr.low,fun x hx=>(h.box x hx).1.lt,h.hn.bel.size,Nat.le_refl _⟩
section
variable {n:Nat} {lg:Option Nat} {vw:Value} {X:List OP}
theorem Lo.off{S:Nat->Prop}(h:Lo w0 W T A R n lg vw X L)(hc:Chg S W W')(hS:∀q,S q->T q=0/\n≤q):Lo w0 W' T A R n lg vw X L:=by
  have hr:=h.rw.apart h.low hc hS;have hle:=h.le; refine⟨⟨⟨⟨lg,vw,X,hr⟩,h.hb.hn.old,h.hb.hn.bel.trans (hc.below fun q hq=>⟨Nat.lt_of_lt_of_le hq h.hb.hn.bel.size,fun e=>by have:=(hS q e).2;omega⟩)⟩,fun x hx=> ?_⟩,hr,h.low,h.box,h.le,Nat.le_trans h.sz hc.size⟩; obtain⟨h1,h2⟩:=h.hb.box x hx; exact⟨h1.mod hc fun e=>by have:=(hS _ e).2;have:=h.box x hx;omega,h2⟩
theorem Lo.below(h:Lo w0 W T A R n lg vw X L)(hb:Below W.heap.size W W'):Lo w0 W' T A R n lg vw X L:=h.off (Chg.ofBelow hb (fun _=>False)) (fun _ e=>e.elim)
theorem Lo.has(h:Lo w0 W T A R n lg vw X L):∀q,A.has q->q<n:=fun q e=>by
  have:=h.low; rcases e with rfl|rfl|rfl|rfl
  · exact this.q
  · exact this.wp
  · exact this.rp
  · exact this.fg
end
structure HoL (w0 W:World) (T:Nat->Nat) (A:Adr) (R:RS) (n:Nat) (lg:Option Nat) (vw:Value) (X:List OP) (L:List (Nat×Array Value×TypeId)) (na:Nat) (D:List UInt8) (ax vI:Value) (ji:Nat) (vC:Value) (jc:Nat):Prop where
  lo:Lo w0 W T A R n lg vw X L
  im:OwnTs W T n 51 5 vI ji (fun j=>ucells (imgB R.s j))
  ca:OwnTs W T n 57 3 vC jc (fun j=>kcells (cacheK R.s j))
  al:OwnT W T na 5 ax (ucells D)
  lt:∀g,ax.ownBlock=some g->g<n
section
variable {n:Nat} {lg:Option Nat} {vw:Value} {X:List OP} {na ji jc:Nat} {D:List UInt8} {ax vI vC:Value}
theorem HoL.below(h:HoL w0 W T A R n lg vw X L na D ax vI ji vC jc)(hb:Below W.heap.size W W'):HoL w0 W' T A R n lg vw X L na D ax vI ji vC jc:=
  ⟨h.lo.below hb,h.im.below hb,h.ca.below hb,h.al.below hb,h.lt⟩
theorem HoL.alloc(h:HoL w0 W T A R n lg vw X L na D ax vI ji vC jc)(o:Obj):HoL w0 (W.alloc o) T A R n lg vw X L na D ax vI ji vC jc:=h.below ((Below.refl _ _).alloc (Nat.le_refl _) _)
theorem HoL.virg(h:HoL w0 W T A R n lg vw X L na D ax vI ji vC jc):∀q,W.heap.size≤q->T q=0:=h.lo.hb.hn.virg
theorem HoL.pushI{x:Value}(h:HoL w0 W T A R n lg vw X L na D ax vI ji vC jc)(hl:vs.length=ji)(h2:OwnT W T n 51 vI vs)(h3:∀j (h:j<vs.length),OwnT W T n 5 (vs[j]'h) (ucells (imgB R.s j)))(hx:OwnT W T n 5 x (ucells (imgB R.s ji)))(ho:W'.ownsRow n 51 1 v' (ji+1) (vs++ [x]))(hb:v'.ownBlock=vI.ownBlock\/v'.ownBlock=some W.heap.size)(hc:Chg (fun q=>vI.ownBlock=some q) W W'):HoL w0 W' T A R n lg vw X L na D ax v' (ji+1) vC jc:=
  ⟨h.lo.off hc (fun q e=>⟨h2.tag q e,(h2.own.lt q e).1⟩),OwnTs.push' hl h2 h3 hx (by decide) h.virg ho hb hc,h.ca.off h2 hc (by decide) (by decide),h.al.mod hc (fun g hg e=>by have:=h.lt g hg;have:=(h2.own.lt g e).1;omega) (fun _ _=>rfl),h.lt⟩
theorem HoL.pushC{x:Value}(h:HoL w0 W T A R n lg vw X L na D ax vI ji vC jc)(hl:vs.length=jc)(h2:OwnT W T n 57 vC vs)(h3:∀j (h:j<vs.length),OwnT W T n 3 (vs[j]'h) (kcells (cacheK R.s j)))(hx:OwnT W T n 3 x (kcells (cacheK R.s jc)))(ho:W'.ownsRow n 57 1 v' (jc+1) (vs++ [x]))(hb:v'.ownBlock=vC.ownBlock\/v'.ownBlock=some W.heap.size)(hc:Chg (fun q=>vC.ownBlock=some q) W W'):HoL w0 W' T A R n lg vw X L na D ax vI ji v' (jc+1):=
  ⟨h.lo.off hc (fun q e=>⟨h2.tag q e,(h2.own.lt q e).1⟩),h.im.off h2 hc (by decide) (by decide),OwnTs.push' hl h2 h3 hx (by decide) h.virg ho hb hc,h.al.mod hc (fun g hg e=>by have:=h.lt g hg;have:=(h2.own.lt g e).1;omega) (fun _ _=>rfl),h.lt⟩
end
structure HoM (w0 W:World) (T:Nat->Nat) (A:Adr) (R:RS) (L:List (Nat×Array Value×TypeId)) (n na:Nat) (D:List UInt8) (s:BaySt) (N:Nat) (ax vI vC:Value):Prop where
  hb:Hb w0 W T A R L
  im:OwnTs W T n 51 5 vI N (fun j=>ucells (imgB s j))
  ca:OwnTs W T n 57 3 vC N (fun j=>kcells (cacheK s j))
  al:OwnT W T na 5 ax (ucells D)
  le:na≤n
  has:∀q,A.has q->q<na
section
variable {n na N:Nat} {D:List UInt8} {ax vI vC:Value} {s:BaySt} {R':RS}
theorem HoM.below(h:HoM w0 W T A R L n na D s N ax vI vC)(hb:Below W.heap.size W W'):HoM w0 W' T A R L n na D s N ax vI vC:=
  ⟨h.hb.below hb,h.im.below hb,h.ca.below hb,h.al.below hb,h.le,h.has⟩
theorem HoM.drew(h:HoM w0 W T A R L n na D s N ax vI vC):HoM w0 W.drew T A R L n na D s N ax vI vC:=h.below (Below.refl _ _).drew
theorem HoM.step(h:HoM w0 W T A R L n na D s N ax vI vC)(k:Hb w0 W' T' A R' L)(st:Stp W T A W' T'):HoM w0 W' T' A R' L n na D s N ax vI vC:=
  ⟨k,h.im.step st (fun q e=>Nat.lt_of_lt_of_le (h.has q e) h.le),h.ca.step st (fun q e=>Nat.lt_of_lt_of_le (h.has q e) h.le),h.al.step st h.has,h.le,h.has⟩
end
theorem Zxu:SliceOf Tryz.prog 81 57 1 24:=SliceOf.mk' (z:=.slice none 0 0) Tryz.underlying81 (by decide) (by kernel_rfl) rfl
theorem Hb.virg(h:Hb w0 W T A R L):∀q,W.heap.size≤q->T q=0:=h.hn.virg
theorem Zx0(h:Hb w0 W T A R L)(p:HoP R V M C S m a b)(hin:Within (a+2000000) b)(hD:allOf R V=D):
    Calls Tryz.prog 32 #[.pointer (some ⟨A.q,0,none⟩),.agg #[.int .i64 M,.int .i64 C,.int .i64 S]] W fun e w'=>∃v R',e=.returned (.tuple #[v,.bool true])/\OwnT w' T W.heap.size 5 v (ucells D)/\Hb w0 w' T A R' L/\HoP R' V M C S m (a+1044480) b/\allOf R' V=D/\Stp W T A w' T:=by
  have e0:(.agg #[.int .i64 M,.int .i64 C,.int .i64 S]:Value)=geo R.M R.C R.S:=by unfold geo;rw[p.M,p.C,p.S]
  rw[e0]; refine(Zx8 (h.lat p.good (.inr p.wait)) p.bud hin).mono ?_; rintro e w' ⟨v,c,rfl,k1,k2,k3,k4⟩;have hst:Stp W T A w' T:=Stp.ofBay k3; refine⟨v,_,rfl,⟨?_,fun g hg=>h.virg g (k1.lt g hg).1⟩,h.step k2.hn hst,(p.ticks c).mono (by omega) (Nat.le_refl _),hD,hst⟩; rw[<- hD,Zag,Zxl p.good];exact k1
theorem Zym(p:HoP R V M C S m a b)(hD:allOf R V=D):D.length≤9223372036854775807:=by
  rw[<- hD];exact Nat.le_trans (Zx6 p.good) (by omega)
theorem Zxi(h:Hb w0 W T A R L)(p:HoP R V M C S m a b):
    Calls Tryz.prog 33 #[.pointer (some ⟨A.b,0,none⟩)] W fun e w'=>e=.returned (.int .i64 ((M+1:Nat):Int))/\w'=W:=by
  obtain⟨lg,vw,X,hr⟩:=h.hn.rw; have:=Zl1 hr.bay; rw[p.n]at this;exact this
theorem Zxn(h:Hb w0 W T A R L)(p:HoP R V M C S m a b)(j:Nat)(hj:j<M+1):
    Calls Tryz.prog 34 #[.pointer (some ⟨A.b,0,none⟩),.int .i64 j] W fun e w'=>∃v,e=.returned (.tuple #[v,.int .u16 0])/\OwnT w' T W.heap.size 5 v (ucells (imgB R.s j))/\Below W.heap.size W w'/\(imgB R.s j).length≤1048576:=by
  obtain⟨lg,vw,X,hr⟩:=h.hn.rw;have hn:j<R.s.n:=by rw[p.n];exact hj
  obtain⟨x,hx,hc⟩:=p.fit.dev j hn trivial;have k:=Ztg hr.bay (j:Int); rw[Zpl hn hx,if_neg (by rw[hc.failed];simp)]at k;have hl:=Zip hc.secs; refine k.mono ?_; rintro e w' ⟨v,rfl,h1,h2,-⟩; obtain⟨k1,k2⟩:=h2 _ rfl;have e:imgB R.s j=x.d.last.flatten:=by unfold imgB;rw[hx]
  rw[e]; rw[Zci,Nat.mul_comm,<- hl,<- Zag]at k2; exact⟨v,rfl,⟨k2,fun g hg=>h.virg g (k2.lt g hg).1⟩,h1,by rw[hl];omega⟩
theorem Zxq(h:Hb w0 W T A R L)(p:HoP R V M C S m a b)(hb:b≤900000)(j:Nat)(hj:j<M+1):
    Calls Tryz.prog 35 #[.pointer (some ⟨A.b,0,none⟩),.int .i64 j] W fun e w'=>∃v,e=.returned v/\OwnT w' T W.heap.size 3 v (kcells (cacheK R.s j))/\Below W.heap.size W w'/\(cacheK R.s j).length≤1000000:=by
  obtain⟨lg,vw,X,hr⟩:=h.hn.rw;have hn:j<R.s.n:=by rw[p.n];exact hj
  obtain⟨x,hx,hc⟩:=p.fit.dev j hn trivial;have hsm:x.d.cache.length≤1000000:=Nat.le_trans (p.bud.small' hb (j*3) (by omega) x hx) (by omega); refine(Zxy hr.bay j hn hx hsm).mono ?_; rintro e w' ⟨v,rfl,k1,k2⟩;have e:cacheK R.s j=x.d.cache.map (·.1):=by unfold cacheK;rw[hx]
  rw[e]; refine⟨v,rfl,⟨?_,fun g hg=>h.virg g (k1.lt g hg).1⟩,k2,by rw[List.length_map];exact hsm⟩;have e2:(kcells (x.d.cache.map (·.1))).length=x.d.cache.length:=by unfold kcells;rw[List.length_map,List.length_map]
  rw[e2];exact k1
theorem Zx9{n na N:Nat}{ax vI vC:Value}{s0:BaySt}(h:HoM w0 W T A R L n na D s0 N ax vI vC)(p:HoP R V M C S m a b)(hin:Within a b)(s:Nat)(hs:s<S):
    Calls Tryz.prog 15 #[.pointer (some ⟨A.b,0,none⟩),.agg #[.int .i64 M,.int .i64 C,.int .i64 S],.pointer (some ⟨A.q,0,none⟩),.int .i64 m,.int .i64 s] W fun e w'=>e=.returned (.agg #[.int .i64 0,.int .u16 0])/\∃T' s',HoM w0 w' T' A {R with s:=s'} L n na D s0 N ax vI vC/\Stp W T A w' T'/\Healed R V m (s*C) C s':=by
  have i1:=hin.a;have i2:=hin.b;have b0:=p.bud.c0;have b1:=p.bud.c1;have b2:=p.bud.c2;have k:=Zvb (h.hb.lat p.good (.inr p.wait)) p.wait m s (by rw[p.M];exact p.m) (by rw[p.S];exact hs) (fun k _=>p.down _) (p.fit.sub fun _ _=>trivial) (by omega) (by omega) (by omega) (p.bud.small' (by omega));have e0:(.agg #[.int .i64 R.M,.int .i64 R.C,.int .i64 R.S]:Value)=.agg #[.int .i64 M,.int .i64 C,.int .i64 S]:=by rw[p.M,p.C,p.S]
  rw[e0]at k; refine k.mono ?_; rintro e w' ⟨rfl,T',s',k1,k2,k3⟩; rw[p.C]at k3; exact⟨rfl,T',s',h.step (h.hb.step k1.hn k2) k2,k2,k3⟩
theorem Zxv{n:Nat}(hl:l.length≤9223372036854775807)(hu:OwnT W T n 5 u (ucells l))(hv:OwnT W T n' 5 v (ucells l)):
    Calls Tryz.prog 28 #[u,v] W fun e w'=>e=.returned (.bool true)/\Below W.heap.size W w':=Zyk hl (Zxo hu.own) (Zxo hv.own)
theorem Zyl{n:Nat}{l:List Nat}(hl:l.length≤1000000)(hu:OwnT W T n 3 u (kcells l))(hv:OwnT W T n' 3 v (kcells l)):
    Calls Tryz.prog 36 #[u,v] W fun e w'=>e=.returned (.bool true)/\Below W.heap.size W w':=by
  have e:(kcells l).length=l.length:=by unfold kcells;rw[List.length_map]
  have hu':=hu.own;have hv':=hv.own; rw[e]at hu' hv'; exact(Zyc u v l l W hl hl (Zxk hu') (Zxk hv')).mono fun e w' ⟨x1,x2⟩=>⟨by rw[x1];simp,x2⟩
theorem Zyi(hg:geoIs M C S=true)(hP:S*C=P)(W:World):Calls Tryz.prog 24 #[.agg #[.int .i64 M,.int .i64 C,.int .i64 S]] W fun e w'=>e=.returned (.int .i64 (P:Int))/\Below W.heap.size W w':=by
  have:=Zo0 M C S W; rw[Zg0 hg,hP]at this;exact this
theorem HcP.geoM{V:Nat->Nat->Sec}(h:HcP R V M C S ring lazy a b):geoIs M C S=true:=by
  have:=h.good.geo; rwa [h.M,h.C,h.S]at this
theorem Zx7(h:Hb w0 W T A R L)(hp:HcP R V M C S ring lazy a b)(hin:Within a b):
    Calls Tryz.prog 29 #[.pointer (some ⟨A.q,0,none⟩)] W fun e w'=>e=.returned (.agg #[.int .i64 0,.int .u16 0])/\∃T' R',Hb w0 w' T' A R' L/\HcP R' V M C S ring lazy (a+1000) b/\R'.wait= []:=by
  refine(Zyf (h.lat hp.good hp.idle) hp.bud hin).mono ?_; rintro e w' ⟨rfl,T',R',hl,hs,hb,hsm,hw,-⟩; exact⟨rfl,T',R',h.step hl.hn hs,hp.next hsm hl.good hl.idle hb,hw⟩
theorem Zyh(h:Hb w0 W T A R L)(hp:HcP R V M C S ring lazy a b)(hb:b≤900000)(hm:m<M):
    Calls Tryz.prog 30 #[.pointer (some ⟨A.b,0,none⟩),.int .i64 m] W fun e w'=>e=.returned (.int .u16 0)/\Hb w0 w' T A {R with s:=R.s.lose m} L:=by
  have hn:m<R.s.n:=by rw[hp.good.n,hp.M];omega
  obtain⟨x,hx,-⟩:=(hp.good.allUp hp.up).dev m hn trivial; refine(Zw6 h.hn m hn x hx (hp.bud.small' (by omega))).mono ?_; rintro e w' ⟨rfl,k1,k2⟩; exact⟨rfl,h.step k1 k2⟩
theorem Zyj(h:Hb w0 W T A {R with s:=R.s.lose m} L)(hp:HcP R V M C S ring lazy a b)(hm:m<M)(hP:S*C=P)(hz:z=1+(P:Int)):
    Calls Tryz.prog 31 #[.pointer (some ⟨A.b,0,none⟩),.int .i64 m,.int .i64 z] W fun e w'=>e=.returned (.int .u16 0)/\∃T',Hb w0 w' T' A {R with s:=R.s.laid (m*3) ⟨freshDsk (1+R.S*R.C),false,0⟩} L:=by
  have hn:m<R.s.n:=by rw[hp.good.n,hp.M];omega
  obtain⟨x,hx,-⟩:=(hp.good.allUp hp.up).dev m hn trivial;have hx':(R.s.lose m).pos (m*3)=some ⟨⟨x.d.last,[],true⟩,x.worn,x.left⟩:=by
    show(if m*3=m*3 then (R.s.pos (m*3)).map (fun x=>(⟨⟨x.d.last,[],true⟩,x.worn,x.left⟩:Dev))else R.s.pos (m*3))=_
    rw[if_pos rfl,hx]; rfl
  have h2:(R.s.lose m).pos (m*3+2)=none:=by
    show(if m*3+2=m*3 then (R.s.pos (m*3+2)).map (fun x=>(⟨⟨x.d.last,[],true⟩,x.worn,x.left⟩:Dev))else R.s.pos (m*3+2))=_
    rw[if_neg (by omega)];exact hp.aside _ (by omega)
  have hf:R.S*R.C≤4096:=(Zbe hp.good.geo).2.2.2;have k:=Zw3 (R:={R with s:=R.s.lose m}) h.hn m (1+R.S*R.C) hn hx' rfl h2 (by omega) (by omega);have e3:((1+R.S*R.C:Nat):Int)=z:=by rw[hz,<- hP,hp.S,hp.C];omega
  rw[e3]at k; refine k.mono ?_; rintro e w' ⟨rfl,T',k1,k2⟩;have e:({({R with s:=R.s.lose m}:RS)with s:=({R with s:=R.s.lose m}:RS).s.laid (m*3) ⟨freshDsk (1+R.S*R.C),false,0⟩}:RS)={R with s:=R.s.laid (m*3) ⟨freshDsk (1+R.S*R.C),false,0⟩}:=by
    show({R with s:=(R.s.lose m).laid (m*3) ⟨freshDsk (1+R.S*R.C),false,0⟩}:RS)=_
    rw[Zs4]
  rw[e]at k1; exact⟨rfl,T',h.step k1 k2⟩
theorem Zyd(h:Hb w0 W T A {R with s:=R.s.laid (m*3) ⟨freshDsk (1+R.S*R.C),false,0⟩} L)(hp:HcP R V M C S ring lazy a b)(hm:m<M):
    Calls Tryz.prog 13 #[.pointer (some ⟨A.q,0,none⟩),.int .i64 m,.bool true,.int .i64 0] W fun e w'=>e=.returned (.tuple #[])/\Hb w0 w' T A (R.anew m) L:=by
  refine(Zvf h.hn m true (by show m<R.M;rw[hp.M];exact hm)).mono ?_; rintro e w' ⟨rfl,k1,k2⟩; exact⟨rfl,h.step k1 k2⟩
end
theorem Zxs(m c s ring:Int)(lazy:Bool)(a1 a2:Int)(v:Value)(l:List (List (Int×List UInt8)))(w:World)(hv:HOpSeg w v l)(h:mayIs m c s ring=false):
    Calls Tryz.prog 5 #[geo m c s,.int .i64 ring,.bool lazy,.int .i64 a1,.int .i64 a2,v] w fun e w'=>e=.returned (.bool true)/\Below w.heap.size w w':=by
  have hb0:Below w.heap.size w (w.alloc (.cells #[.int .i64 m,.int .i64 c,.int .i64 s] 23)):=(Below.refl _ _).alloc (Nat.le_refl _) _;have ha0:At (w.alloc (.cells #[.int .i64 m,.int .i64 c,.int .i64 s] 23)) w.heap.size #[.int .i64 m,.int .i64 c,.int .i64 s] 23:=At.new _ _ _;have KU:=hid (Zol m c s v l _ (hv.below hb0));have KK:Hid (∀W,Calls Tryz.prog 9 #[] W fun e w'=>e=.returned (.bool true)/\Below W.heap.size W w'):=Zl0;have KM:Hid (∀W,Calls Tryz.prog 10 #[geo m c s,.int .i64 ring] W fun e w'=>e=.returned (.bool false)/\Below W.heap.size W w'):=fun W=>by
    have:=Zri m c s ring W; rw[h]at this;exact this
  have HB0:=hid hb0;have HA0:=hid ha0;have c0:=ha0.cell 0;have c1:=ha0.cell 1;have c2:=ha0.cell 2;have hl0:=ha0.lt; unfold geo at*; clear hb0 ha0 h hv; go_enter Tryz.func5,Tryz.ntmps5
  go_wp2_with (first
    |(go_at_call 8;(with_reducible refine KU.out.mono ?_);rintro e w1 ⟨r,rfl,hr,hb1⟩;clear c0 c1 c2;have HB1:=hid (Zac HB0.out hb1);have HA1:=hid (HA0.out.below hb1 HA0.out.lt);clear hr hb1)
    |(go_at_call 9;(with_reducible refine(KK.out _).mono ?_);rintro e w2 ⟨rfl,hb2⟩;have HB2:=hid (Zac HB1.out hb2);have ha2:=HA1.out.below hb2 HA1.out.lt;have c0:=ha2.cell 0;have c1:=ha2.cell 1;have c2:=ha2.cell 2;have hl2:=ha2.lt;clear ha2 hb2)
    |(go_at_call 10;(with_reducible refine(KM.out _).mono ?_);rintro e w3 ⟨rfl,hb3⟩;have HB3:=hid (Zac HB2.out hb3);clear hb3))
  all_goals (first|(go_ret;exact⟨rfl,HB3.out⟩)|(go_ret;exact⟨rfl,HB1.out⟩))
theorem Zxr(M C S ring:Nat)(lazy:Bool)(a1 a2:Int)(v:Value)(l:List (List (Int×List UInt8)))(w:World)(hv:HOpSeg w v l)(hg:geoIs M C S=true)(h5:5≤ring)(h6:ring≤2048):
    Calls Tryz.prog 5 #[geo M C S,.int .i64 ring,.bool lazy,.int .i64 a1,.int .i64 a2,v] w fun e w'=>e=.returned (.bool true)/\Below w.heap.size w w':=by
  have hb0:Below w.heap.size w (w.alloc (.cells #[.int .i64 M,.int .i64 C,.int .i64 S] 23)):=(Below.refl _ _).alloc (Nat.le_refl _) _;have ha0:At (w.alloc (.cells #[.int .i64 M,.int .i64 C,.int .i64 S] 23)) w.heap.size #[.int .i64 M,.int .i64 C,.int .i64 S] 23:=At.new _ _ _;have KU:=hid (Zol M C S v l _ (hv.below hb0));have KK:Hid (∀W,Calls Tryz.prog 9 #[] W fun e w'=>e=.returned (.bool true)/\Below W.heap.size W w'):=Zl0;have KM:Hid (∀W,Calls Tryz.prog 10 #[geo M C S,.int .i64 ring] W fun e w'=>e=.returned (.bool true)/\Below W.heap.size W w'):=fun W=>by
    have:=Zri M C S ring W;have hm:mayIs M C S ring=true:=by
      unfold mayIs; rw[hg,decide_eq_true (show(5:Int)≤ring by omega),decide_eq_true (show(ring:Int)≤2048 by omega)]; rfl
    rw[hm]at this;exact this
  have KD:=hid (fun W=>Zom M C S ring lazy W hg h5 h6);have HPB:Hid (HcP (made0R M C S ring lazy) zeroV M C S ring lazy 10000 3000):=HcP.begun hg h5 h6;have hgb:=Zbe hg;have hgi:=(Zam M C S).1 hg;have HB0:=hid hb0;have HA0:=hid ha0;have HV:=hid hv;have c0:=ha0.cell 0;have c1:=ha0.cell 1;have c2:=ha0.cell 2;have hl0:=ha0.lt;have hlf:=hv.few; obtain⟨va,vc,rfl⟩:=hv.shape; unfold geo at*; clear hb0 ha0 hv h5 h6 hg; go_enter Tryz.func5,Tryz.ntmps5
  go_wp2_with (first
    |(go_at_call 8;(with_reducible refine KU.out.mono ?_);rintro e w1 ⟨r,rfl,hr,hb1⟩;clear c0 c1 c2;have HMU:=hid hr;have HB1:=hid (Zac HB0.out hb1);have HA1:=hid (HA0.out.below hb1 HA0.out.lt);clear hr hb1)
    |(go_at_call 9;(with_reducible refine(KK.out _).mono ?_);rintro e w2 ⟨rfl,hb2⟩;have HB2:=hid (Zac HB1.out hb2);have ha2:=HA1.out.below hb2 HA1.out.lt;have c0:=ha2.cell 0;have c1:=ha2.cell 1;have c2:=ha2.cell 2;have hl2:=ha2.lt;have HA2:=hid ha2;clear ha2 hb2)
    |(go_at_call 10;(with_reducible refine(KM.out _).mono ?_);rintro e w3 ⟨rfl,hb3⟩;clear c0 c1 c2;have HB3:=hid (Zac HB2.out hb3);have ha3:=HA2.out.below hb3 HA2.out.lt;have c0:=ha3.cell 0;have c1:=ha3.cell 1;have c2:=ha3.cell 2;have hl3:=ha3.lt;have HA3:=hid ha3;clear ha3 hb3)
    |(go_at_call 11;(with_reducible refine(KD.out w3).mono ?_);rintro e w4 ⟨T,A,pp,cp,sp,rfl,k1,k2,k3,k4⟩;clear c0 c1 c2;have HBX:Hid (Hb w3 w4 T A (made0R M C S ring lazy) [pairBox pp A cp sp,gBox w.heap.size M C S]):=Zwe k1 k2 k3 HA3.out;have HVV:Hid (HOpSeg w3 (.slice va l.length vc) l):=HV.out.below HB3.out;clear k1 k2 k3 k4))
  any_goals (first|(go_ret;exact⟨rfl,HB1.out⟩)|skip)
  have HFW:Hid (FewHeal M C S l):=HMU.out (by first|assumption|(exact Bool.eq_false_iff.2 (by assumption))|(cases r<;>simp_all)); clear KU KK KM KD HMU HA0 HA1 HA2 HV HB0 HB1 HB2; go_loopw [14] (fun q wr=>∃k:Nat,k≤l.length/\q=.int .i64 k/\∃T R V,Hb w3 wr T A R [pairBox pp A cp sp,gBox w.heap.size M C S]/\HcP R V M C S ring lazy (swA k) (swB l k)) (fun q _=>l.length-(intOf q).toNat); case atStart=>exact⟨0,by omega,rfl,_,_,_,HBX.out,HPB.out.more (by unfold swA;omega) (by unfold swB;omega)⟩
  case round=>
    clear HBX HPB; obtain⟨k,hk,rfl,T,R,V,hbx,hpx⟩:=hrel;have HBX:=hid hbx;have HPX:=hid hpx; clear hbx hpx; by_cases hkl:k<l.length
    · have K1:Hid (k+1≤l.length):=hkl
      obtain⟨bb,off,rfl,hlt,hx⟩:=HVV.out.full (by omega); obtain⟨u4,x4,q4⟩:=hx k hkl; obtain⟨pa,pc,rfl⟩:=q4.shape;have hbw:=HBX.out.hn.bel;have hlt':bb<wr.heap.size:=Nat.lt_of_lt_of_le hlt hbw.size;have HQ4:=hid q4;have hin:=Zre HFW.out hk;have HIN:Hid (Within (swA k) (swB l k)):=⟨by have:=hin.a;omega,by have:=hin.b;omega⟩;have HNX:Hid (∀R V,HcP R V M C S ring lazy (swA k+1000000) (swB l k+8*(l[k]'hkl).length+4)->HcP R V M C S ring lazy (swA (k+1)) (swB l (k+1))):=fun R V h=>h.more (by rw[Zug];omega) (by rw[Zu6 hkl];omega)
      have HSS:Hid (∀W T R,Hb w3 W T A R [pairBox pp A cp sp,gBox w.heap.size M C S]->W.cell? ⟨pp,2,none⟩=some (.pointer (some ⟨A.q,0,none⟩))/\W.cell? ⟨bb,off+k*5+4,none⟩=some (.slice pa (l[k]'hkl).length pc)):=fun W T R h=>⟨(h.get 0 rfl).cell 2,(h.hn.bel.cell (p:=⟨bb,off+k*5+4,none⟩) hlt).trans x4⟩
      clear x4 q4 hx hbw hin; generalize (l[k]'hkl)=us at*; go_wp2; go_region_held3 (fun W=>W.cell? ⟨pp,2,none⟩=some (.pointer (some ⟨A.q,0,none⟩))/\W.cell? ⟨bb,off+k*5+4,none⟩=some (.slice pa us.length pc))
        (first|exact HSS.out _ _ _ HBX.out|exact HSS.out _ _ _ (Zbt HBX.out)|exact HSS.out _ _ _ HB9.out)
        (first|(go_at_call 12;(with_reducible refine(Zut (Zbt HBX.out) HPX.out HIN.out _ us HQ4.out).mono ?_);rintro e w9 ⟨⟨cd,rfl⟩,T9,R9,V9,hb9,hp9⟩;have HB9:=hid hb9;have HP9:=hid hp9;clear hb9 hp9))
      go_wp2; exact⟨⟨k+1,K1.out,by go_num,_,_,_,HB9.out,HNX.out _ _ HP9.out⟩,by simp[intOf];have:=K1.out;omega⟩
    · obtain rfl:k=l.length:=by omega
      have hin:=Zre HFW.out (Nat.le_refl l.length);have HIB:Hid (Within (swA l.length+200000000000) (swB l l.length+100000)):=hin; clear hin;have tm:∀(a:Int) (n:Nat),0<n-> -(n:Int)<Int.tmod a n/\Int.tmod a n<n/\((Int.tmod a n).natAbs<n):=fun a n hn=>by
        have h1:=Int.natAbs_tmod a n;have h2:a.natAbs%n<n:=Nat.mod_lt _ hn;have h3:(Int.tmod a n).natAbs<n:=by rw[h1,Int.natAbs_natCast];exact h2
        omega
      obtain⟨r1a,r1b,hm0⟩:=tm a1 M (by omega); obtain⟨r2a,r2b,hk0⟩:=tm a2 S (by omega);have hmx:∀z:Int,((z.natAbs:Nat):Int)=if z< -z then -z else z:=fun z=>by split<;>omega
      have hmx1:=hid (hmx (Int.tmod a1 M));have hmx2:=hid (hmx (Int.tmod a2 S)); clear tm hmx;have m0a:¬M=0:=by omega
      have m0b:¬S=0:=by omega
      have m0c:¬(M:Int)=0:=by omega
      have m0d:¬(S:Int)=0:=by omega
      have HK0:Hid ((Int.tmod a2 S).natAbs<S):=hk0;have HM0:Hid ((Int.tmod a1 M).natAbs<M):=hm0; clear hm0 hk0; generalize hem:(Int.tmod a1 M).natAbs=m0 at*; generalize hek:(Int.tmod a2 S).natAbs=k0 at*; clear hem hek; generalize swB l l.length=sb at*; generalize swA l.length=sa at*; obtain⟨P,hP⟩:∃P,S*C=P:=⟨_,rfl⟩;have hP4:P≤4096:=by rw[<- hP];exact(Zbe HPX.out.geoM).2.2.2
      have HPP:Hid (S*C=P):=hP;have HRW:Hid (∀W,Calls Tryz.prog 24 #[.agg #[.int .i64 M,.int .i64 C,.int .i64 S]] W fun e w'=>e=.returned (.int .i64 (P:Int))/\Below W.heap.size W w'):=Zyi HPX.out.geoM hP; clear hP;have c0:=(HBX.out.get 1 rfl).cell 0;have c1:=(HBX.out.get 1 rfl).cell 1;have c2:=(HBX.out.get 1 rfl).cell 2;have hlw:=(HBX.out.get 1 rfl).lt; go_wp2; go_quiet (fail);have HBD:Hid (Hb w3 (wr.drewN nq) T A R [pairBox pp A cp sp,gBox w.heap.size M C S]):=HBX.out.below (below_drewN (Below.refl _ _) _); clear HBX c0 c1 c2 hlw; generalize wr.drewN nq=wd at*;have p2:wd.cell? ⟨pp,2,none⟩=some (.pointer (some ⟨A.q,0,none⟩)):=(HBD.out.get 0 rfl).cell 2
      go_upto_region 18 with (first
        |(first|(refine Zi5 rfl _ _ 3 rfl _ _ (m0:Int) rfl rfl hmx1.out ?_)|(refine Zi5 rfl _ _ 3 rfl _ _ (k0:Int) rfl rfl hmx2.out ?_))
        |(go_at_call 29;(with_reducible refine(Zx7 HBD.out HPX.out ⟨by have:=HIB.out.a;omega,by have:=HIB.out.b;omega⟩).mono ?_);rintro e w6 ⟨rfl,T6,R6,hb6,hp6,hw6⟩;clear p2;have HB6:=hid hb6;have HP6:=hid hp6;have HW6:=hid hw6;have p0:w6.cell? ⟨pp,0,none⟩=some (.pointer (some ⟨A.b,0,none⟩)):=(hb6.get 0 rfl).cell 0;clear hb6 hp6 hw6)
        |(go_at_call 30;(with_reducible refine(Zyh HB6.out HP6.out (by have:=HIB.out.b;omega) HM0.out).mono ?_);rintro e w7 ⟨rfl,hb7⟩;clear p0;have HB7:=hid hb7;clear hb7))
      have HS:Hid (∀X T R,Hb w3 X T A R [pairBox pp A cp sp,gBox w.heap.size M C S]->X.cell? ⟨pp,0,none⟩=some (.pointer (some ⟨A.b,0,none⟩))/\X.cell? ⟨pp,2,none⟩=some (.pointer (some ⟨A.q,0,none⟩))/\X.cell? ⟨w.heap.size,0,none⟩=some (.int .i64 M)/\X.cell? ⟨w.heap.size,1,none⟩=some (.int .i64 C)/\X.cell? ⟨w.heap.size,2,none⟩=some (.int .i64 S)):=fun X T R h=>⟨(h.get 0 rfl).cell 0,(h.get 0 rfl).cell 2,(h.get 1 rfl).cell 0,(h.get 1 rfl).cell 1,(h.get 1 rfl).cell 2⟩
      clear HBD HPX; go_region_held3 (fun X=>X.cell? ⟨pp,0,none⟩=some (.pointer (some ⟨A.b,0,none⟩))/\X.cell? ⟨pp,2,none⟩=some (.pointer (some ⟨A.q,0,none⟩))/\X.cell? ⟨w.heap.size,0,none⟩=some (.int .i64 M)/\X.cell? ⟨w.heap.size,1,none⟩=some (.int .i64 C)/\X.cell? ⟨w.heap.size,2,none⟩=some (.int .i64 S))
        (first
          |exact HS.out _ _ _ HB7.out
          |exact HS.out _ _ _ (Zbt HB7.out)
          |exact HS.out _ _ _ HBR.out
          |exact HS.out _ _ _ (Zbt HBR.out)
          |exact HS.out _ _ _ HB8.out)
        (first
          |(go_at_call 24;(with_reducible refine(HRW.out _).mono ?_);rintro e wq ⟨rfl,hbq⟩;(refine Zw5 (P:=Hb w3 wq T6 A {R6 with s:=R6.s.lose m0} [pairBox pp A cp sp,gBox w.heap.size M C S]) ?_ ?_);(focus (refine Zow ?_ hbq;(first|with_reducible exact HB7.out|with_reducible exact Zbt HB7.out)));intro hbr;have HBR:=hid hbr;clear hbr hbq)
          |(go_at_call 31;(with_reducible refine(Zyj HBR.out HP6.out HM0.out HPP.out (by unfold IntKind.wrap;simp[IntKind.signed,IntKind.bits];omega)).mono ?_);rintro e w8 ⟨rfl,T8,hb8⟩;have HB8:=hid hb8;clear hb8))
      have hwr:IntKind.i64.wrap (1+(P:Int))=1+(P:Int):=by unfold IntKind.wrap;simp[IntKind.signed,IntKind.bits];omega
      rw[hwr]; clear hwr;have p2:w8.cell? ⟨pp,2,none⟩=some (.pointer (some ⟨A.q,0,none⟩)):=(HB8.out.get 0 rfl).cell 2; go_upto_region 20 with (go_at_call 13;(with_reducible refine(Zyd HB8.out HP6.out HM0.out).mono ?_);rintro e w9 ⟨rfl,hb9⟩;clear p2;have HB9:=hid hb9;clear hb9)
      have HP9:Hid (HoP (R6.anew m0) V M C S m0 (sa+1000) sb):=HoP.anew HP6.out HW6.out HM0.out; clear HB6 HB7 HB8 HBR HP6 HW6 HRW HPP; generalize R6.anew m0=R9 at*; obtain⟨D,hD⟩:∃D,allOf R9 V=D:=⟨_,rfl⟩;have HD9:=hid hD;have HDL:=hid (Zym HP9.out hD);have HHA:Hid (∀q,A.has q->q<w9.heap.size):=by
        obtain⟨lg,vw,X,h⟩:=HB9.out.lo;exact h.has
      clear hD; go_region_held3 (fun X=>X.cell? ⟨pp,0,none⟩=some (.pointer (some ⟨A.b,0,none⟩))/\X.cell? ⟨pp,2,none⟩=some (.pointer (some ⟨A.q,0,none⟩))/\X.cell? ⟨w.heap.size,0,none⟩=some (.int .i64 M)/\X.cell? ⟨w.heap.size,1,none⟩=some (.int .i64 C)/\X.cell? ⟨w.heap.size,2,none⟩=some (.int .i64 S))
        (first
          |exact HS.out _ _ _ HB9.out
          |exact HS.out _ _ _ (Zbt HB9.out)
          |exact HS.out _ _ _ HBA.out)
        (first
          |(go_at_call 32;(with_reducible refine(Zx0 (Zbt HB9.out) HP9.out ⟨by have:=HIB.out.a;omega,by have:=HIB.out.b;omega⟩ HD9.out).mono ?_);rintro e wa ⟨al,RA,rfl,ho,hba,hpa,hda,hza⟩;obtain⟨ala,alc,rfl⟩:=Zab ho.own;have HZ9:Hid (w9.heap.size≤wa.heap.size):=hza.chg.size;have HAL:=hid ho;have HBA:=hid hba;have HPA:=hid hpa;have HDA:=hid hda;clear ho hba hpa hda hza))
      go_wp2; obtain⟨lg,vw,X,hlo⟩:=HBA.out.lo;have HL0:Hid (HoL w3 wa T8 A RA wa.heap.size lg vw X [pairBox pp A cp sp,gBox w.heap.size M C S] w9.heap.size D (.slice ala (ucells D).length alc) (.slice none 0 0) 0 (.slice none 0 0) 0):=⟨hlo,.nil _ _ _ _ _ _,.nil _ _ _ _ _ _,HAL.out,fun g hg=>(HAL.out.own.lt g hg).2⟩;have HZN:Hid (w9.heap.size≤wa.heap.size):=HZ9.out; clear hlo; generalize wa.heap.size=na at*; go_loopw [19,20,21,22,23] (fun v1 v2 q _ _ wi=>∃j:Nat,j≤M+1/\q=.int .i64 j/\HoL w3 wi T8 A RA na lg vw X [pairBox pp A cp sp,gBox w.heap.size M C S] w9.heap.size D (.slice ala (ucells D).length alc) v1 j v2 j) (fun _ _ q _ _ _=>M+1-(intOf q).toNat); case atStart=>exact⟨0,by omega,rfl,HL0.out⟩
      case round=>
        obtain⟨j,hj,rfl,hol⟩:=hrel;have p0:wr.cell? ⟨pp,0,none⟩=some (.pointer (some ⟨A.b,0,none⟩)):=(HS.out _ _ _ hol.lo.hb).1;have HOL:=hid hol; clear hol HL0; by_cases hjl:j<M+1
        · have HJL:Hid (j<M+1):=hjl
          obtain⟨vs1,hv1,ho1,hq1,hi1⟩:=HOL.out.im.open;have HV1:Hid (vs1.length=j/\wr.ownsRow na 51 1 u19 j vs1/\OwnT wr T8 na 51 u19 vs1/\∀i (h:i<vs1.length),OwnT wr T8 na 5 (vs1[i]'h) (ucells (imgB RA.s i))):=⟨hv1,ho1,hq1,hi1⟩;have hjb:j≤17:=by omega
          clear hv1 ho1 hq1 hi1
          go_wp2_with (first
            |(go_at_call 33;(with_reducible refine(Zxi HOL.out.lo.hb HPA.out).mono ?_);rintro e wx ⟨rfl,hw⟩;obtain rfl:wr=wx:=hw.symm)
            |(go_at_call 34;(with_reducible refine(Zxn HOL.out.lo.hb HPA.out j HJL.out).mono ?_);rintro e wb ⟨xv,rfl,ho,hb,hl⟩;obtain⟨xa,xc,rfl⟩:=Zab ho.own;clear p0;have hob:=HOL.out.below hb;have HO:Hid (OwnT wb T8 na 5 (.slice xa (ucells (imgB RA.s j)).length xc) (ucells (imgB RA.s j))):=ho.mono HOL.out.lo.sz;have HOB:=hid hob;have HB:=hid hb;clear ho hb hob)
            |(refine Zar rfl _ _ 80 51 1 24 rfl Zie na _ j vs1 rfl (World.ownsRow.alloc (Zad HV1.out.2.1 (Chg.ofBelow HB.out (fun _=>False)) (fun _ _ e=>e)) _) ⟨wb.heap.size,0,none⟩ 1 1 [.slice xa (ucells (imgB RA.s j)).length xc] rfl rfl (Zyb _ _ _) (by intro u hu;rw[List.mem_singleton]at hu;subst hu;rfl) (by unfold maxLen;omega) (by omega) (Nat.le_trans HOB.out.lo.sz (by rw[Zaa];omega)) (by omega) ?_;intro v1 wc hown1 hloc1 hchg1 hkeep1;have hoc:=(HOB.out.alloc (.cells #[.slice xa (ucells (imgB RA.s j)).length xc] 51)).pushI HV1.out.1 ((HV1.out.2.2.1.below HB.out).below ((Below.refl _ _).alloc (Nat.le_refl _) _)) (fun i h=>((HV1.out.2.2.2 i h).below HB.out).below ((Below.refl _ _).alloc (Nat.le_refl _) _)) (HO.out.below ((Below.refl _ _).alloc (Nat.le_refl _) _)) hown1 hloc1 hchg1;have HOC:=hid hoc;have p0:wc.cell? ⟨pp,0,none⟩=some (.pointer (some ⟨A.b,0,none⟩)):=(HS.out _ _ _ hoc.lo.hb).1;clear hown1 hloc1 hchg1 hkeep1 hoc)
            |(go_at_call 35;(with_reducible refine(Zxq HOC.out.lo.hb HPA.out (by have:=HIB.out.b;omega) j HJL.out).mono ?_);rintro e we ⟨kv,rfl,ho,hb,hl⟩;obtain⟨ka,kc,rfl⟩:=Zab ho.own;clear p0;obtain⟨vs2,hv2,ho2,hq2,hi2⟩:=HOC.out.ca.open;have HV2:Hid (vs2.length=j/\wc.ownsRow na 57 1 u20 j vs2/\OwnT wc T8 na 57 u20 vs2/\∀i (h:i<vs2.length),OwnT wc T8 na 3 (vs2[i]'h) (kcells (cacheK RA.s i))):=⟨hv2,ho2,hq2,hi2⟩;have hob:=HOC.out.below hb;have HO2:Hid (OwnT we T8 na 3 (.slice ka (kcells (cacheK RA.s j)).length kc) (kcells (cacheK RA.s j))):=ho.mono HOC.out.lo.sz;have HOE:=hid hob;have HB2:=hid hb;clear ho hb hob hv2 ho2 hq2 hi2)
            |(refine Zar rfl _ _ 81 57 1 24 rfl Zxu na _ j vs2 rfl (World.ownsRow.alloc (Zad HV2.out.2.1 (Chg.ofBelow HB2.out (fun _=>False)) (fun _ _ e=>e)) _) ⟨we.heap.size,0,none⟩ 1 1 [.slice ka (kcells (cacheK RA.s j)).length kc] rfl rfl (Zyb _ _ _) (by intro u hu;rw[List.mem_singleton]at hu;subst hu;rfl) (by unfold maxLen;omega) (by omega) (Nat.le_trans HOE.out.lo.sz (by rw[Zaa];omega)) (by omega) ?_;intro v2 wf hown1 hloc1 hchg1 hkeep1;have hoc:=(HOE.out.alloc (.cells #[.slice ka (kcells (cacheK RA.s j)).length kc] 57)).pushC HV2.out.1 ((HV2.out.2.2.1.below HB2.out).below ((Below.refl _ _).alloc (Nat.le_refl _) _)) (fun i h=>((HV2.out.2.2.2 i h).below HB2.out).below ((Below.refl _ _).alloc (Nat.le_refl _) _)) (HO2.out.below ((Below.refl _ _).alloc (Nat.le_refl _) _)) hown1 hloc1 hchg1;have HOF:=hid hoc;clear hown1 hloc1 hchg1 hkeep1 hoc))
          go_roundw; case rel=>exact⟨j+1,HJL.out,by go_num,HOF.out⟩
          case measure=>simp[intOf];have:=HJL.out;omega
        · obtain rfl:j=M+1:=by omega
          have HME:Hid (HoM w3 wr T8 A RA [pairBox pp A cp sp,gBox w.heap.size M C S] na w9.heap.size D RA.s (M+1) (.slice ala (ucells D).length alc) u19 u20):=⟨HOL.out.lo.hb,HOL.out.im,HOL.out.ca,HOL.out.al,HZN.out,HHA.out⟩; go_wp2_with (go_at_call 33;(with_reducible refine(Zxi HOL.out.lo.hb HPA.out).mono ?_);rintro e wx ⟨rfl,hw⟩;obtain rfl:wr=wx:=hw.symm);have HNR:Hid (na≤wr.heap.size):=HOL.out.lo.sz; clear HOL; go_region_held3 (fun X=>X.cell? ⟨pp,0,none⟩=some (.pointer (some ⟨A.b,0,none⟩))/\X.cell? ⟨pp,2,none⟩=some (.pointer (some ⟨A.q,0,none⟩))/\X.cell? ⟨w.heap.size,0,none⟩=some (.int .i64 M)/\X.cell? ⟨w.heap.size,1,none⟩=some (.int .i64 C)/\X.cell? ⟨w.heap.size,2,none⟩=some (.int .i64 S))
            (first
              |exact HS.out _ _ _ HME.out.hb
              |exact HS.out _ _ _ (Zbt HME.out.hb)
              |exact HS.out _ _ _ HM1.out.hb
              |exact HS.out _ _ _ (Zbt HM1.out.hb))
            (first
              |(go_at_call 15;(with_reducible refine(Zx9 (T:=T8) HME.out.drew HPA.out ⟨by have:=HIB.out.a;omega,by have:=HIB.out.b;omega⟩ k0 HK0.out).mono ?_);rintro e wg ⟨rfl,TG,s1,hm,hst,hh⟩;have HM1:=hid hm;have HNG:Hid (na≤wg.heap.size):=Nat.le_trans HNR.out hst.chg.size;have HH1:=hid hh;clear hm hst hh))
          have HPG:Hid (HoP {RA with s:=s1} V M C S m0 (sa+1000+1044480+1000) (sb+16)):=HPA.out.healed HH1.out;have p0:wg.cell? ⟨pp,0,none⟩=some (.pointer (some ⟨A.b,0,none⟩)):=(HS.out _ _ _ HM1.out.hb).1; go_upto_region 32 with (go_at_call 34;(with_reducible refine(Zxn HM1.out.hb HPG.out m0 (Nat.lt_succ_of_lt HM0.out)).mono ?_);rintro e wh ⟨xv,rfl,ho,hb,hl⟩;obtain⟨ma,mc,rfl⟩:=Zab ho.own;clear p0;have HMI:Hid (OwnT wh TG w9.heap.size 5 (.slice ma (ucells (imgB s1 m0)).length mc) (ucells (imgB s1 m0))):=ho.mono (Nat.le_trans HZN.out (Nat.le_trans HNG.out (Nat.le_refl _)));have HM2:=hid (HM1.out.below hb);clear ho hb)
          go_region_held3 (fun X=>X.cell? ⟨pp,0,none⟩=some (.pointer (some ⟨A.b,0,none⟩))/\X.cell? ⟨pp,2,none⟩=some (.pointer (some ⟨A.q,0,none⟩))/\X.cell? ⟨w.heap.size,0,none⟩=some (.int .i64 M)/\X.cell? ⟨w.heap.size,1,none⟩=some (.int .i64 C)/\X.cell? ⟨w.heap.size,2,none⟩=some (.int .i64 S))
            (first
              |exact HS.out _ _ _ HM2.out.hb
              |exact HS.out _ _ _ (Zbt HM2.out.hb)
              |exact HS.out _ _ _ HM3.out.hb
              |exact HS.out _ _ _ (Zbt HM3.out.hb))
            (first
              |(go_at_call 15;(with_reducible refine(Zx9 (T:=TG) HM2.out.drew HPG.out ⟨by have:=HIB.out.a;omega,by have:=HIB.out.b;omega⟩ k0 HK0.out).mono ?_);rintro e wi ⟨rfl,TI,s2,hm,hst,hh⟩;have HM3:Hid (HoM w3 wi TI A {RA with s:=s2} [pairBox pp A cp sp,gBox w.heap.size M C S] na w9.heap.size D RA.s (M+1) (.slice ala (ucells D).length alc) u19 u20):=hm;have HMJ:=hid (HMI.out.drew.step hst HHA.out);have HH2:=hid hh;clear hm hst hh))
          have HPI:Hid (HoP {RA with s:=s2} V M C S m0 (sa+1000+1044480+1000+1000) (sb+16+16)):=HPG.out.healed HH2.out;have HIM:Hid (imgB s2 m0=imgB s1 m0):=HPA.out.twice HH1.out HH2.out;have HSE:Hid (∀j,j≠m0->imgB s2 j=imgB RA.s j/\cacheK s2 j=cacheK RA.s j):=fun j hj=>by
            have e:s2.pos (j*3)=RA.s.pos (j*3):=(HH2.out.pos _ (by omega)).trans (HH1.out.pos _ (by omega)); exact⟨Zye e,Zx2 e⟩
          have HDI:Hid (allOf {RA with s:=s2} V=D):=HDA.out; obtain⟨gI,cI,rfl⟩:=HM3.out.im.shape (by omega); obtain⟨gC,cC,rfl⟩:=HM3.out.ca.shape (by omega); obtain⟨sR,hsR⟩:∃s,s=RA.s:=⟨_,rfl⟩; rw[<- hsR]at HSE HM3; clear HM1 HM2 HME HH1 HH2 HPG HPA HMI HDA HD9 HP9 HB9 HBA HAL HNG HNR hsR; obtain⟨RI,hRI⟩:∃RI:RS,RI={RA with s:=s2}:=⟨_,rfl⟩;have HRI:Hid (RI.s=s2/\True):=⟨by rw[hRI],trivial⟩; rw[<- hRI]at HM3 HPI HDI; clear hRI; go_wp2_with fail; go_loopw [26,27,28] (fun q _ _ wl=>∃j:Nat,j≤M+1/\q=.int .i64 j/\HoM w3 wl TI A RI [pairBox pp A cp sp,gBox w.heap.size M C S] na w9.heap.size D sR (M+1) (.slice ala (ucells D).length alc) (.slice (some ⟨gI,0,none⟩) (M+1) cI) (.slice (some ⟨gC,0,none⟩) (M+1) cC)/\OwnT wl TI w9.heap.size 5 (.slice ma (ucells (imgB s1 m0)).length mc) (ucells (imgB s1 m0))) (fun q _ _ _=>M+1-(intOf q).toNat); case atStart=>exact⟨0,by omega,rfl,HM3.out,HMJ.out⟩
          case round=>
            obtain⟨j,hj,rfl,hol,hmi⟩:=hrel;have p0:wr.cell? ⟨pp,0,none⟩=some (.pointer (some ⟨A.b,0,none⟩)):=(HS.out _ _ _ hol.hb).1;have HOL:=hid hol;have HMI:=hid hmi; clear hol hmi HM3 HMJ; by_cases hjl:j<M+1
            · have HJL:Hid (j<M+1):=hjl
              by_cases hjm:j=m0
              · subst hjm
                go_wp2_with (first
                  |(go_at_call 33;(with_reducible refine(Zxi HOL.out.hb HPI.out).mono ?_);rintro e wx ⟨rfl,hw⟩;obtain rfl:wr=wx:=hw.symm)
                  |(go_at_call 34;(with_reducible refine(Zxn HOL.out.hb HPI.out j HJL.out).mono ?_);rintro e wb ⟨xv,rfl,ho,hb,hl⟩;rw[HRI.out.1,HIM.out]at ho hl;obtain⟨xa,xc,rfl⟩:=Zab ho.own;have HO:=hid ho;have HL:=hid hl;have HOB:=hid (HOL.out.below hb);have HMB:=hid (HMI.out.below hb);clear ho hb hl)
                  |(go_at_call 28;(with_reducible refine(Zxv (Nat.le_trans HL.out (by omega)) HO.out HMB.out).mono ?_);rintro e wd ⟨rfl,hb⟩;have HOC:=hid (HOB.out.below hb);have HMC:=hid (HMB.out.below hb);clear hb))
                go_roundw; case rel=>exact⟨j+1,HJL.out,by go_num,HOC.out,HMC.out⟩
                case measure=>simp[intOf];have:=HJL.out;omega
              · have hjn:((j:Int)==(m0:Int))=false:=by simp only [beq_eq_false_iff_ne,ne_eq];omega
                have HJN:Hid (j≠m0):=hjm
                go_upto_region 41 with (first
                  |(go_at_call 33;(with_reducible refine(Zxi HOL.out.hb HPI.out).mono ?_);rintro e wx ⟨rfl,hw⟩;obtain rfl:wr=wx:=hw.symm)
                  |(go_at_call 34;(with_reducible refine(Zxn HOL.out.hb HPI.out j HJL.out).mono ?_);rintro e wb ⟨xv,rfl,ho,hb,hl⟩;rw[HRI.out.1,(HSE.out j HJN.out).1]at ho hl;obtain⟨xa,xc,rfl⟩:=Zab ho.own;have HO:=hid ho;have HL:=hid hl;have HOB:=hid (HOL.out.below hb);have HMB:=hid (HMI.out.below hb);clear ho hb hl))
                obtain⟨x1,y1,z1,o1⟩:=HOB.out.im.at j HJL.out; obtain⟨x2,y2,z2,o2⟩:=HOB.out.ca.at j HJL.out;have HKC:Hid (∀X,Below wb.heap.size wb X->X.cell? ⟨pp,0,none⟩=some (.pointer (some ⟨A.b,0,none⟩))/\X.cell? ⟨gI,j,none⟩=some x1/\X.cell? ⟨gC,j,none⟩=some x2):=fun X hb=>⟨(HS.out _ _ _ (HOB.out.below hb).hb).1,(hb.cell (p:=⟨gI,j,none⟩) z1).trans y1,(hb.cell (p:=⟨gC,j,none⟩) z2).trans y2⟩
                have HQ:Hid (∀W,Below wb.heap.size wb W->Calls Tryz.prog 28 #[.slice xa (ucells (imgB sR j)).length xc,x1] W fun e w'=>e=.returned (.bool true)/\Below W.heap.size W w'):=fun W hb=>Zxv (Nat.le_trans HL.out (by omega)) (HO.out.below hb) (o1.below hb)
                have HPN:Hid (∀W,Below wb.heap.size wb W->Calls Tryz.prog 35 #[.pointer (some ⟨A.b,0,none⟩),.int .i64 j] W fun e w'=>∃v,e=.returned v/\OwnT w' TI W.heap.size 3 v (kcells (cacheK sR j))/\Below W.heap.size W w'/\(cacheK sR j).length≤1000000):=fun W hb=>by
                  have:=Zxq (HOB.out.below hb).hb HPI.out (by have:=HIB.out.b;omega) j HJL.out; rw[HRI.out.1,(HSE.out j HJN.out).2]at this;exact this
                have HIN:Hid (∀W v n,Below wb.heap.size wb W->OwnT W TI n 3 v (kcells (cacheK sR j))->(cacheK sR j).length≤1000000->Calls Tryz.prog 36 #[v,x2] W fun e w'=>e=.returned (.bool true)/\Below W.heap.size W w'):=fun W v n hb hv hl=>Zyl hl hv (o2.below hb)
                have hgI:=z1;have hgC:=z2; clear y1 y2 z1 z2 o1 o2 p0; go_region_held3 (fun X=>X.cell? ⟨pp,0,none⟩=some (.pointer (some ⟨A.b,0,none⟩))/\X.cell? ⟨gI,j,none⟩=some x1/\X.cell? ⟨gC,j,none⟩=some x2)
                  (first
                    |exact HKC.out _ (Below.refl _ _)
                    |exact HKC.out _ (Below.refl _ _).drew
                    |exact HKC.out _ HBN.out
                    |exact HKC.out _ HBN.out.drew
                    |exact HKC.out _ HBP.out
                    |exact HKC.out _ HBP.out.drew
                    |exact HKC.out _ HBS.out)
                  (first
                    |(go_at_call 28;(with_reducible refine(HQ.out _ (Below.refl _ _).drew).mono ?_);rintro e wn ⟨rfl,hb⟩;have HBN:=hid (Zac (Below.refl _ _).drew hb);clear hb)
                    |(go_at_call 35;(with_reducible refine(HPN.out _ HBN.out).mono ?_);rintro e wp ⟨kv,rfl,ho,hb,hl⟩;obtain⟨ka,kc,rfl⟩:=Zab ho.own;have HKV:=hid ho;have HKL:=hid hl;have HBP:=hid (Zac HBN.out hb);clear ho hb hl)
                    |(go_at_call 36;(with_reducible refine(HIN.out _ _ _ HBP.out HKV.out HKL.out).mono ?_);rintro e ws ⟨rfl,hb⟩;have HBS:=hid (Zac HBP.out hb);clear hb))
                go_wp2_with fail; go_roundw; case rel=>exact⟨j+1,HJL.out,by go_num,HOB.out.below HBS.out,HMB.out.below HBS.out⟩
                case measure=>simp[intOf];have:=HJL.out;omega
            · obtain rfl:j=M+1:=by omega
              go_wp2_with (go_at_call 33;(with_reducible refine(Zxi HOL.out.hb HPI.out).mono ?_);rintro e wx ⟨rfl,hw⟩;obtain rfl:wr=wx:=hw.symm); go_region_held3 (fun X=>X.cell? ⟨pp,0,none⟩=some (.pointer (some ⟨A.b,0,none⟩))/\X.cell? ⟨pp,2,none⟩=some (.pointer (some ⟨A.q,0,none⟩))/\X.cell? ⟨w.heap.size,0,none⟩=some (.int .i64 M)/\X.cell? ⟨w.heap.size,1,none⟩=some (.int .i64 C)/\X.cell? ⟨w.heap.size,2,none⟩=some (.int .i64 S))
                (first
                  |exact HS.out _ _ _ HOL.out.hb
                  |exact HS.out _ _ _ (Zbt HOL.out.hb)
                  |exact HS.out _ _ _ HBZ.out)
                (first
                  |(go_at_call 32;(with_reducible refine(Zx0 (Zbt HOL.out.hb) HPI.out ⟨by have:=HIB.out.a;omega,by have:=HIB.out.b;omega⟩ HDI.out).mono ?_);rintro e wz ⟨v9,RZ,rfl,ho,hba,hpa,hda,hst⟩;obtain⟨za,zc,rfl⟩:=Zab ho.own;have HZV:=hid ho;have HBZ:=hid hba;have HAZ:=hid (HOL.out.al.drew.step hst HHA.out);clear ho hba hpa hda hst))
              go_wp2_with (go_at_call 28;(with_reducible refine(Zxv HDL.out HAZ.out HZV.out).mono ?_);rintro e wy ⟨rfl,hb⟩;have HBY:=hid (HBZ.out.below hb);clear hb); go_ret; exact⟨rfl,HB3.out.trans (HBY.out.hn.bel.mono HB3.out.size)⟩
open Go.ChangeShapes Go.WideShapes Go.ChangeAt Go.Deep
theorem healOthers_walk{H:Type}(w:World)(enc:TypeId×Value->H)(base:Nat)(v:Value)(d:DataW H)(ps:List MemPlace)(hok:Value.okWide Tryz.prog w .any base 23 v)(h:DataW.Trod enc Tryz.prog w 0 (fun _=>true) true 23 v d ps)
    (ring:Int) (_:(Lit.int .i64 ring).wf=true) (lazy:Bool) (a1:Int) (_:(Lit.int .i64 a1).wf=true) (a2:Int) (_:(Lit.int .i64 a2).wf=true)
    (enc':TypeId×Value->H) (base':Nat) (v':Value) (d':DataW H) (ps':List MemPlace) (hok':Value.okWide Tryz.prog w .any base' 24 v') (h':DataW.Trod enc' Tryz.prog w 0 (fun _=>true) true 24 v' d' ps') (hw':∀n∈d'.weights Tryz.prog 24,n≤reachBytes):
    Calls Tryz.prog 5 #[v,.int .i64 ring,.bool lazy,.int .i64 a1,.int .i64 a2,v'] w fun e w'=>e=.returned (.bool true)/\Below w.heap.size w w':=by
  obtain⟨m,c,s,rfl⟩:=Zns hok h; obtain⟨l,hv⟩:=Zly hok' h' hw'; cases hm:mayIs m c s ring
  · exact Zxs m c s ring lazy a1 a2 v' l w hv hm
  · obtain⟨M,C,S,r,rfl,rfl,rfl,rfl,hg,h5,h6⟩:=Zvz hm
    exact Zxr M C S r lazy a1 a2 v' l w hv hg h5 h6
end Go.Proofs.YtljjjpakcbcioaaGreat
