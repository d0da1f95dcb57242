/- Two texts in one. -/
import Derived.Test.YtljjjpakcbcioaaGreatHl1
import Derived.Test.YtljjjpakcbcioaaGreatHl2
import Derived.Deep.Onto
import Derived.Deep.CutRange
import Derived.Deep.CutBlock
import Derived.Deep.RegionHeld3
import Derived.ChangeArms
import Derived.Deep.MidRow
import Derived.Deep.WholeRow
import Derived.OneCell
import Derived.OwnWalk
import Derived.WalkKit
import Derived.WalkSmall
set_option linter.unusedVariables false
set_option maxRecDepth 100000
set_option maxHeartbeats 32000000
namespace Go.Proofs.YtljjjpakcbcioaaGreat
open Value renaming int→O,pointer→Zs
open IntKind renaming i64→Z
open Ending renaming returned→Zu
open Go.Proofs.Tryz renaming prog→Zw
open Go.RowKit
open Lib(hid)
variable {A:Adr} {cs:Array Value} {s s':BaySt} {lazy:Bool} {x y z:Int} {L:List (Nat×Array Value×TypeId)} {D l:List UInt8} {vs:List Value} {B C M P S a a' b b' g j k m n' q ring:Nat} {T:Nat->Nat} {V:Nat->Nat->Sec} {o:Obj} {lg:Option Nat} {R:RS} {t:TypeId} {u v v' vw:Value} {W X w w0:World}
structure Hn (w0 W:World) (T:Nat->Nat) (A:Adr) (R:RS):Prop where
 rw:∃lg vw X,RwIn W T A R lg vw X
 old:∀q,q<w0.heap.size->T q=0/\¬A.has q
 bel:Below w0.heap.size w0 W
section
variable {w0 W W':World} {T T':Nat->Nat} {A:Adr} {R R':RS} {V:Nat->Nat->Sec}
theorem LAt.hn(h:LAt w0 W T A R V):Hn w0 W T A R:=⟨h.rw,h.old,h.bel⟩
theorem Hn.lat(h:Hn w0 W T A R)(g:Good R V)(i:R.lazy=true\/R.wait= []):LAt w0 W T A R V:=⟨h.rw,g,i,h.old,h.bel⟩
theorem Hn.below(h:Hn w0 W T A R)(hb:Below W.heap.size W W'):Hn w0 W' T A R:=by
 obtain⟨lg,vw,X,hr⟩:=h.rw;exact⟨⟨lg,vw,X,hr.below hb⟩,h.old,h.bel.trans (hb.mono h.bel.size)⟩
theorem Hn.next(h:Hn w0 W T A R)(s:Stp W T A W' T'):(∀q,q<w0.heap.size->T' q=0/\¬A.has q)/\Below w0.heap.size w0 W':=by
 have hs:=h.bel.size;refine⟨fun q hq=>⟨(s.tags q (by omega)).trans (h.old q hq).1,(h.old q hq).2⟩,h.bel.trans (s.chg.below fun q hq=>⟨by omega,fun e=>e.elim (fun e=>e (h.old q hq).1) (h.old q hq).2⟩)⟩
theorem Hn.keep(h:Hn w0 W T A R)(s:Stp W T A W' T')(ha:At W g cs t)(ht:T g=0)(h1:101≠t)(h2:3≠t)(h3:133≠t)(h4:203≠t):At W' g cs t/\T' g=0:=by
 obtain⟨lg,vw,X,hr⟩:=h.rw;exact⟨ha.mod s.chg fun e=>e.elim (fun e=>e ht) (hr.offAt ha h1 h2 h3 h4),(s.tags g ha.lt).trans ht⟩
theorem Hn.virg(h:Hn w0 W T A R)(q:Nat)(hq:W.heap.size≤q):T q=0:=by
 obtain⟨lg,vw,X,hr⟩:=h.rw;exact Zae hr.bay q hq
theorem Hn.turn(h:Hn w0 W T A R)(hp:BayPost W T A.b s' W'):∃T',Hn w0 W' T' A {R with s:=s'}/\Stp W T A W' T':=by
 obtain⟨lg,vw,X,hr⟩:=h.rw;obtain⟨T',k1,k2,k3⟩:=hp;have hst:Stp W T A W' T':=⟨k2,k3.mono fun q e=>.inl e⟩;obtain⟨k4,k5⟩:=h.next hst;exact⟨T',⟨⟨lg,vw,X,hr.turn k1 k2 k3⟩,k4,k5⟩,hst⟩
theorem Zw6(h:Hn w0 W T A R)(m:Nat)(hm:m<R.s.n)(x:Dev)(hx:R.s.pos (m*3)=some x)(hsm:R.s.small 1000000):
  Calls Zw 30 #[Zs (some ⟨A.b,0,none⟩),O Z m] W fun e w'=>e=Zu (.int .u16 0)/\Hn w0 w' T A {R with s:=R.s.lose m}/\Stp W T A w' T:=by
 obtain⟨lg,vw,X,hr⟩:=h.rw;obtain⟨gs,ptr,tg,dp,hin⟩:=hr.bay;refine(Zkg hin m hm x hx (hsm (m*3) (by omega) x hx)).mono ?_;rintro e w' ⟨rfl,h1,h2⟩;have h1':BayAt w' T A.b (R.s.lose m):=by
  rw[<-Zsb hx];exact⟨gs,ptr,tg,dp,h1⟩
 have hst:Stp W T A w' T:=⟨fun _ _=>rfl,h2.mono fun q e=>.inl e⟩;obtain⟨k4,k5⟩:=h.next hst;exact⟨rfl,⟨⟨lg,vw,X,hr.turn h1' (fun _ _=>rfl) h2⟩,k4,k5⟩,hst⟩
theorem Zw3(h:Hn w0 W T A R)(m n:Nat)(hm:m<R.s.n){x:Dev}(hx:R.s.pos (m*3)=some x)(hf:x.d.failed=true)(h2:R.s.pos (m*3+2)=none)(hn:0<n)(hn2:n≤8192):
  Calls Zw 31 #[Zs (some ⟨A.b,0,none⟩),O Z m,O Z n] W fun e w'=>e=Zu (.int .u16 0)/\∃T',Hn w0 w' T' A {R with s:=R.s.laid (m*3) ⟨freshDsk n,false,0⟩}/\Stp W T A w' T':=by
 obtain⟨lg,vw,X,hr⟩:=h.rw;refine(Zt3 hr.bay m n hm hx hf h2 hn hn2).mono ?_;rintro e w' ⟨rfl,hp⟩;obtain⟨T',k1,k2⟩:=h.turn hp;exact⟨rfl,T',k1,k2⟩
theorem Zvf(h:Hn w0 W T A R)(m:Nat)(dn:Bool)(hm:m<R.M):
  Calls Zw 13 #[Zs (some ⟨A.q,0,none⟩),O Z m,.bool dn,O Z 0] W fun e w'=>e=Zu (.tuple #[])/\Hn w0 w' T A (R.marked m dn)/\Stp W T A w' T:=by
 obtain⟨lg,vw,X,hr⟩:=h.rw;refine(Zs9 hr m dn hm).mono ?_;rintro e w' ⟨rfl,h1,h2⟩;have hst:Stp W T A w' T:=⟨fun _ _=>rfl,h2.mono fun q e=>.inr e⟩;obtain⟨k4,k5⟩:=h.next hst;exact⟨rfl,⟨⟨lg,vw,X,h1⟩,k4,k5⟩,hst⟩
theorem Zg1(h:Hn w0 W T A R)(h0:R.s.cnt 0=x)(h1:R.s.cnt 1=y)(h2:R.s.cnt 2=z):
  Calls Zw 14 #[Zs (some ⟨A.b,0,none⟩)] W fun e w'=>e=Zu (.agg #[O Z x,O Z y,O Z z])/\Below W.heap.size W w':=by
 obtain⟨lg,vw,X,hr⟩:=h.rw;have:=Zp2 hr.bay;unfold cntVal at this;rw[h0,h1,h2]at this;exact this
theorem Zvb(h:LAt w0 W T A R V)(hw:R.wait= [])(m s:Nat)(hm:m<R.M)(hs:s<R.S)(hd:∀k,k<R.C->R.dn m (s*R.C+k)=true)(hf:Fit R.s (fun j=>R.G j\/j=m) R.szs)(hc0:R.s.cnt 0≤990000000000)(hc1:R.s.cnt 1≤990000000000)(hc2:R.s.cnt 2≤990000000000)(hsm:R.s.small 900000):
  Calls Zw 15 #[Zs (some ⟨A.b,0,none⟩),.agg #[O Z R.M,O Z R.C,O Z R.S],Zs (some ⟨A.q,0,none⟩),O Z m,O Z s] W fun e w'=>e=Zu (.agg #[O Z 0,.int .u16 0])/\∃T' s',LAt w0 w' T' A {R with s:=s'} V/\Stp W T A w' T'/\Healed R V m (s*R.C) R.C s':=by
 obtain⟨lg,vw,X,hr⟩:=h.rw;refine(Ztc hr h.good hw m s hm hs hd hf hc0 hc1 hc2 hsm).mono ?_;rintro e w' ⟨rfl,T',s',k1,k2,k3,k4⟩;have hst:Stp W T A w' T':=⟨k3,k4.mono fun q e=>.inl e⟩;obtain⟨k5,k6⟩:=h.next hst;exact⟨rfl,T',s',⟨⟨lg,vw,X,k1⟩,k2.good h.good hd,h.idle,k5,k6⟩,hst,k2⟩
end
theorem Zrq{n:Nat}(hn:0<n):CalmDev ⟨freshDsk n,false,0⟩ n:=by
 refine⟨rfl,rfl,by simp[freshDsk],fun s hs=> ?_,fun y hy=>(by cases hy),fun y hy=>(by cases hy)⟩;have:s∈List.replicate n zsec:=hs;rw[List.mem_replicate]at this;rw[this.2];simp[zsec]
theorem Zs4(s:BaySt)(m:Nat)(y:Dev):(s.lose m).laid (m*3) y=s.laid (m*3) y:=by
 unfold BaySt.lose BaySt.laid;congr 1;funext q;by_cases e:q=m*3
 ·rw[Zf e,Zf e]
 ·rw[Ze e,Ze e]
  exact Ze e
abbrev RS.anew(R:RS)(m:Nat):RS:={R.marked m true with s:=R.s.laid (m*3) ⟨freshDsk (1+R.S*R.C),false,0⟩}
theorem Good.allUp(h:Good R V)(hf:R.fr=fun _=> -1):Fit R.s (fun _=>True) R.szs:=by
 have hd:∀m r,R.dn m r=false:=fun m r=>by unfold RS.dn;rw[hf];simp
 refine⟨h.fit.dark,h.fit.trip,fun j hj _=>h.fit.dev j hj ?_⟩;have:=(Zbe h.geo).2.2.1;have hn:=h.n;by_cases e:j=R.M
 ·exact .inl e
 ·exact .inr ⟨by omega,0,this,hd j 0⟩
theorem Good.anew(h:Good R V)(hf:R.fr=fun _=> -1)(hm:m<R.M):Good (R.anew m) V/\Fit (R.anew m).s (fun _=>True) (R.anew m).szs/\(∀r,(R.anew m).dn m r=true):=by
 have ha:=h.allUp hf;have hdn:∀j r,(R.marked m true).dn j r=decide (j=m):=fun j r=>by
  unfold RS.dn RS.marked;rw[hf];by_cases e:j=m
  ·simp[e]
  ·simp[e]
 have hfit:Fit (R.s.laid (m*3) ⟨freshDsk (1+R.S*R.C),false,0⟩) (fun _=>True) R.szs:=ha.laid m (by
  have:R.szs m=1+R.S*R.C:=by unfold RS.szs;rw[Zf hm]
  rw[this]
  exact Zrq (by omega))
 refine⟨(h.mark hf m).aside rfl (hfit.sub fun _ _=>trivial) fun j r hj hr hd=> ?_,hfit,fun r=>(hdn m r).trans (by simp)⟩;rw[hdn j r,decide_eq_false_iff_not]at hd;exact Zcn (Ze (by omega)) _
theorem Zrc{G:Nat->Prop}{sz:Nat->Nat}(hf:Fit s G sz)(hm:m<s.n)(hg:G m)(hd:s.dry m):∃L:List Sec,s.image (m:Int)=(0,some L)/\L.length=sz m/\(∀x∈L,x.length=128)/\∀z,z<sz m->L[z]?=some (s.sec m z):=by
 obtain⟨x,h1,h2⟩:=hd;obtain⟨y,e1,h3⟩:=hf.dev m hm hg;have hxy:y=x:=Option.some.inj (e1.symm.trans h1);subst hxy;refine⟨y.d.last,?_,h3.len,h3.secs,fun z hz=> ?_⟩
 ·rw[Zpl hm h1,Ze (by rw[h3.failed];simp)]
 ·rw[Zdt h1]
  unfold Dsk.cur;rw[h2];have hl:z<y.d.last.length:=by rw[h3.len];exact hz
  show _=some (y.d.last.getD z zsec)
  rw[Zh hl,Zi,Zh hl];rfl
theorem Zvg(h:Hn w0 W T A R)(m:Nat){L:List Sec}(hL:R.s.image (m:Int)=(0,some L)):
  Calls Zw 34 #[Zs (some ⟨A.b,0,none⟩),O Z m] W fun e w'=>∃v,e=Zu (.tuple #[v,.int .u16 0])/\Below W.heap.size W w'/\w'.ownsRow W.heap.size 5 1 v (128*L.length) (ucells L.flatten):=by
 obtain⟨lg,vw,X,hr⟩:=h.rw;have:=Ztg hr.bay (m:Int);rw[hL]at this;refine this.mono ?_;rintro e w' ⟨v,rfl,h1,h2,-⟩;obtain⟨-,k⟩:=h2 L rfl;rw[Zci,Nat.mul_comm]at k;exact⟨v,rfl,h1,k⟩
open Go.RowKit
structure Hb (w0 W:World) (T:Nat->Nat) (A:Adr) (R:RS) (L:List (Nat×Array Value×TypeId)):Prop where
 hn:Hn w0 W T A R
 box:∀x∈L,At W x.1 x.2.1 x.2.2/\T x.1=0/\101≠x.2.2/\3≠x.2.2/\133≠x.2.2/\203≠x.2.2
section
variable {w0 W W':World} {T T':Nat->Nat} {A:Adr} {R R':RS} {V:Nat->Nat->Sec} {L:List (Nat×Array Value×TypeId)}
theorem Hb.below(h:Hb w0 W T A R L)(hb:Below W.heap.size W W'):Hb w0 W' T A R L:=
 ⟨h.hn.below hb,fun x hx=>⟨(h.box x hx).1.below hb (h.box x hx).1.lt,(h.box x hx).2⟩⟩
theorem Hb.step(h:Hb w0 W T A R L)(k:Hn w0 W' T' A R')(s:Stp W T A W' T'):Hb w0 W' T' A R' L:=
 ⟨k,fun x hx=>by
  obtain⟨h1,h2,h3,h4,h5,h6⟩:=h.box x hx
  obtain⟨k1,k2⟩:=h.hn.keep s h1 h2 h3 h4 h5 h6
  exact⟨k1,k2,h3,h4,h5,h6⟩⟩
theorem Hb.push(h:Hb w0 W T A R L)(cs:Array Value)(t:TypeId)(h1:101≠t)(h2:3≠t)(h3:133≠t)(h4:203≠t):Hb w0 (W.alloc (.cells cs t)) T A R ((W.heap.size,cs,t)::L):=by
 have hb:=h.below ((Zb W.heap.size W).alloc (Za _) (.cells cs t));refine⟨hb.hn,fun x hx=> ?_⟩;rcases List.mem_cons.1 hx with e|e
 ·subst e
  exact⟨At.new _ _ _,h.hn.virg _ (Za _),h1,h2,h3,h4⟩
 ·exact hb.box x e
theorem Hb.get(h:Hb w0 W T A R L)(i:Nat)(hi:L[i]?=some (g,cs,t)):At W g cs t:=(h.box _ (List.mem_of_getElem? hi)).1
theorem Hb.lat(h:Hb w0 W T A R L)(g:Good R V)(i:R.lazy=true\/R.wait= []):LAt w0 W T A R V:=h.hn.lat g i
theorem Zow(h:Hb w0 W T A R L)(hb:Below W.heap.size W W'):Hb w0 W' T A R L:=h.below hb
theorem Zbc(h:Hb w0 W T A R L):Hb w0 (W.alloc o) T A R L:=h.below ((Zb _ _).alloc (Za _) _)
theorem Zbt(h:Hb w0 W T A R L):Hb w0 W.drew T A R L:=h.below (Zb _ _).drew
theorem Zds{n:Nat}(hs:n=W.heap.size)(h:Hb w0 W T A R L):Hb w0 (W.alloc (.cells #[O Z 0,.int .u16 0] 33)) T A R ((n,#[O Z 0,.int .u16 0],33)::L):=by
 subst hs;exact h.push _ _ (by decide) (by decide) (by decide) (by decide)
theorem Zks(h:g=X.heap.size):At (X.alloc (.cells cs t)) g cs t:=by rw[h];exact At.new _ _ _
theorem Zcc(h:At X g cs t):At (X.alloc o) g cs t:=h.alloc o
theorem Hb.zeros{n:Nat}(h:Hb w0 W T A R ((n,#[O Z 0,.int .u16 0],33)::L))(hw:w0.heap.size≤n)(ht:∀x∈L,x.1≠n):Hb w0 ((W.setCell ⟨n,0,none⟩ (O Z 0)).setCell ⟨n,1,none⟩ (.int .u16 0)) T A R ((n,#[O Z 0,.int .u16 0],33)::L):=by
 obtain⟨b1,b2,b3⟩:=h.box _ List.mem_cons_self;have hst:Chg (fun p=>p=n) W ((W.setCell ⟨n,0,none⟩ (O Z 0)).setCell ⟨n,1,none⟩ (.int .u16 0)):=Zk (S:=fun p=>p=n) (Zk (S:=fun p=>p=n) (Zl _ _) ⟨n,0,none⟩ (.inl rfl) _) ⟨n,1,none⟩ (.inl rfl) _;obtain⟨lg,vw,X,hr⟩:=h.hn.rw;refine⟨⟨⟨lg,vw,X,hr.box b1 b2 hst⟩,h.hn.old,h.hn.bel.trans (hst.below fun q hq=>⟨Zd hq h.hn.bel.size,fun e=>by omega⟩)⟩,fun x hx=> ?_⟩;rcases List.mem_cons.1 hx with e|e
 ·subst e
  exact⟨(b1.set 0 (O Z 0)).set 1 (.int .u16 0),b2,b3⟩
 ·obtain⟨k1,k2⟩:=h.box x hx
  exact⟨k1.mod hst (ht x e),k2⟩
end
section
variable {w0 W:World} {T:Nat->Nat} {A:Adr} {R:RS} {V:Nat->Nat->Sec} {L:List (Nat×Array Value×TypeId)}
theorem Zw7(hk:KnownRes R):1+R.S*R.C=3:=by rw[hk.S,hk.C]
theorem Zu4(hk:KnownRes R):R.s.small 1000000:=fun i hi x hx=>Zc (hk.small i hi x hx) (by omega)
theorem Zvq(h:Hb w0 W T A (R.marked 0 true) L)(hk:KnownRes R)(hg:Good R V):
  Calls Zw 30 #[Zs (some ⟨A.b,0,none⟩),O Z 0] W fun e w'=>e=Zu (.int .u16 0)/\Hb w0 w' T A {R.marked 0 true with s:=R.s.lose 0} L:=by
 have hn:0<R.s.n:=by rw[hg.n];omega
 obtain⟨x,hx,-⟩:=(hg.allUp hk.fr).dev 0 hn trivial;have hsm:=Zu4 hk;refine(Zw6 (R:=R.marked 0 true) h.hn 0 hn x hx hsm).mono ?_;rintro e w' ⟨rfl,k1,k2⟩;exact⟨rfl,h.step k1 k2⟩
theorem Zws(h:Hb w0 W T A {R.marked 0 true with s:=R.s.lose 0} L)(hk:KnownRes R)(hg:Good R V)(ha:∀q,q%3≠0->R.s.pos q=none):
  Calls Zw 31 #[Zs (some ⟨A.b,0,none⟩),O Z 0,O Z 3] W fun e w'=>e=Zu (.int .u16 0)/\∃T',Hb w0 w' T' A (R.anew 0) L:=by
 have hn:0<R.s.n:=by rw[hg.n];omega
 obtain⟨x,hx,-⟩:=(hg.allUp hk.fr).dev 0 hn trivial;have hx':(R.s.lose 0).pos (0*3)=some ⟨⟨x.d.last,[],true⟩,x.worn,x.left⟩:=by
  unfold BaySt.lose;show(if 0*3=0*3 then (R.s.pos (0*3)).map (fun x=>(⟨⟨x.d.last,[],true⟩,x.worn,x.left⟩:Dev))else R.s.pos (0*3))=_
  rw[Zf rfl,hx];rfl
 have h2:(R.s.lose 0).pos (0*3+2)=none:=by
  show(if 0*3+2=0*3 then (R.s.pos (0*3+2)).map (fun x=>(⟨⟨x.d.last,[],true⟩,x.worn,x.left⟩:Dev))else R.s.pos (0*3+2))=_
  rw[Ze (by omega)];exact ha _ (by omega)
 have hl:=Zw7 hk;have k:=Zw3 (R:={R.marked 0 true with s:=R.s.lose 0}) h.hn 0 (1+R.S*R.C) hn hx' rfl h2 (by omega) (by omega);have e3:((1+R.S*R.C:Nat):Int)=3:=by rw[hl];rfl
 rw[e3]at k;refine k.mono ?_;rintro e w' ⟨rfl,T',k1,k2⟩;have e:({({R.marked 0 true with s:=R.s.lose 0}:RS)with s:=({R.marked 0 true with s:=R.s.lose 0}:RS).s.laid (0*3) ⟨freshDsk (1+R.S*R.C),false,0⟩}:RS)=R.anew 0:=by
  show({R.marked 0 true with s:=(R.s.lose 0).laid (0*3) ⟨freshDsk (1+R.S*R.C),false,0⟩}:RS)=_
  rw[Zs4]
 rw[e]at k1;exact⟨rfl,T',h.step k1 k2⟩
theorem Zso(h:Hb w0 W T A (R.anew 0) L)(hk:KnownRes R)(hg:Good R V):
  Calls Zw 15 #[Zs (some ⟨A.b,0,none⟩),.agg #[O Z 3,O Z 1,O Z 2],Zs (some ⟨A.q,0,none⟩),O Z 0,O Z 0] W fun e w'=>e=Zu (.agg #[O Z 0,.int .u16 0])/\∃T' s',Hb w0 w' T' A {R.anew 0 with s:=s'} L/\Healed (R.anew 0) V 0 0 1 s':=by
 obtain⟨g1,g2,g3⟩:=hg.anew hk.fr (m:=0) (by rw[hk.M];omega);have hM:(R.anew 0).M=3:=hk.M;have hC:(R.anew 0).C=1:=hk.C;have hS:(R.anew 0).S=2:=hk.S
 have k:=Zvb (h.lat g1 (.inr hk.wait)) hk.wait 0 0 (by rw[hM];omega) (by rw[hS];omega) (fun k _=>g3 _) (g2.sub fun _ _=>trivial) (by show R.s.cnt 0≤_;rw[hk.c0];omega) (by show R.s.cnt 1≤_;rw[hk.c1];omega) (by show R.s.cnt 2≤_;rw[hk.c2];omega) (fun i hi x hx=>by
  change (if i=0*3 then some _ else R.s.pos i)=some x at hx
  by_cases e:i=0*3
  ·rw[Zf e]at hx
   simp only [Zg]at hx
   subst hx
   exact Nat.zero_le _
  ·rw[Ze e]at hx
   exact Zc (hk.small i hi x hx) (by omega))
 have e0:(.agg #[O Z (R.anew 0).M,O Z (R.anew 0).C,O Z (R.anew 0).S]:Value)=.agg #[O Z 3,O Z 1,O Z 2]:=by
  rw[hM,hC,hS];rfl
 rw[e0]at k;refine k.mono ?_;rintro e w' ⟨rfl,T',s',k1,k2,k3⟩;rw[hC]at k3;exact⟨rfl,T',s',h.step k1.hn k2,k3⟩
theorem Zuw(h:Hb w0 W T A {R.anew 0 with s:=s'} L)(hs:Healed (R.anew 0) V 0 0 1 s')(hk:KnownRes R)(hg:Good R V)(hb:blkOf 3 1 V 0=knownS):
  Calls Zw 34 #[Zs (some ⟨A.b,0,none⟩),O Z 0] W fun e w'=>∃g cap,e=Zu (.tuple #[.slice (some ⟨g,0,none⟩) 384 cap,.int .u16 0])/\Below W.heap.size W w'/\w'.cell? ⟨g,135,none⟩=some (.int .u8 5)/\g<w'.heap.size:=by
 have hM:(R.anew 0).M=3:=hk.M;have hC:(R.anew 0).C=1:=hk.C;have hS:(R.anew 0).S=2:=hk.S;have hz:(R.anew 0).szs 0=3:=by
  unfold RS.szs;rw[hM,hC,hS];rfl
 obtain⟨Li,h1,h2,h3,h4⟩:=Zrc hs.fit (m:=0) (by rw[hs.n];show 0<R.s.n;rw[hg.n];omega) (.inr rfl) hs.dry;rw[hz]at h2 h4;have hv:Li[1]?=some knownS:=by
  rw[h4 1 (by omega),hs.sec 1 (by rw[hC,hS];omega),Zf (by omega),<-hb];rfl
 refine(Zvg h.hn 0 h1).mono ?_;rintro e w' ⟨v,rfl,k1,k2⟩;rw[h2]at k2;obtain⟨g,cap,rfl,-,hlt⟩:=Zas k2 (by omega);refine⟨g,cap,rfl,k1,?_,hlt⟩;have hb1:=Zqs h3 (i:=1) (j:=7) (by omega) (by omega);have hb2:Li[1]'(by omega)=knownS:=by
  have:=hv;rw[Zh (by omega)]at this;exact Option.some.inj this
 rw[hb2]at hb1;have hb3:(ucells Li.flatten)[135]?=some (.int .u8 5):=by
  unfold ucells;rw[List.getElem?_map,show(135:Nat)=128*1+7 by omega,hb1];rfl
 have:=k2.cells (g:=g) rfl 135 _ hb3;rw[Go.WideShapes.add_plain,Nat.zero_add]at this;exact this
end
structure KnR (R:RS) (V:Nat->Nat->Sec):Prop where
 res:KnownRes R
 good:Good R V
 aside:∀q,q%3≠0->R.s.pos q=none
 blk:blkOf 3 1 V 0=knownS
abbrev knR0:RS:=made0R 3 1 2 10 false
theorem Zgx(h:Hb w0 W T A knR0 L){p:Nat}(hp:At W p #[O Z 0,.slice (some ⟨g,0,none⟩) 128 128] 53)(hgb:At W g (ucells knownS).toArray 5):
  Calls Zw 12 #[Zs (some ⟨A.q,0,none⟩),.slice (some ⟨p,0,none⟩) 1 1] W fun e w'=>e=Zu (.agg #[O Z 0,.int .u16 0])/\∃T' R V,Hb w0 w' T' A R L/\KnR R V:=by
 have hmade:=Zey (M:=3) (C:=1) (S:=2) (ring:=10) (by omega) (by omega) (by omega);have hgood:Good knR0 zeroV:=Zfb (by decide) (by omega) (by omega) hmade;have hh:=h.lat hgood (.inr rfl);have hasd:=hmade.aside;have heq:knR0=kR (formed (rBay 3 (2*1) 10) 3 10 1):=rfl;rw[heq]at h hh;generalize formed (rBay 3 (2*1) 10) 3 10 1=s0 at*;obtain⟨lg,vw,X,hr⟩:=hh.rw;have hpW:∀W',Chg (fun q=>q=A.q) W W'->PutSeg W' (.slice (some ⟨p,0,none⟩) 1 1) (kU knownS):=fun W' hc=>Zuh (hp.mod hc (Zaw hp hr.rw (by decide))) (hgb.mod hc (Zaw hgb hr.rw (by decide))) Zb6
 have hfit:2*mostIn (kR s0).M ((kR s0).S*(kR s0).C) (tabAll (kR s0).M (kR s0).C (kU knownS))+1≤(kR s0).size:=by
  have:=Zu9 knownS;show 2*mostIn 3 (2*1) (tabAll 3 1 (kU knownS))+1≤10
  rw[this];omega
 refine(Zjv hr hh.good _ (kU knownS) hpW (Zgz knownS Zb6) (by simp[kU]) hfit (by show 1≤1000000000000;omega) ?_ ?_ ?_ ?_).mono ?_
 ·show s0.cnt 0≤_;rw[hmade.c0];omega
 ·show s0.cnt 1≤_;rw[hmade.c1];omega
 ·show s0.cnt 2≤_;rw[hmade.c2];omega
 ·exact hmade.small.mono (by omega)
 ·rintro e w' ⟨rfl,ps,R1,R4,R',sec,lg',vw',X',hbt,T',k1,k2,k3⟩
  have hst:Stp W T A w' T':=⟨k2,k3⟩;obtain⟨k4,k5⟩:=hh.next hst;have hres:=hbt.res hh.good (Zgz knownS Zb6) (by simp[kU]) hfit (by show 1≤1000000000000;omega);exact⟨rfl,T',R',_,h.step ⟨⟨lg',vw',X',k1⟩,k4,k5⟩ hst,Zsd hmade Zb6 hbt,hres.good,fun q hq=>(hres.base.aside q hq).trans (hasd q hq),Zph zeroV s0 hh.good⟩
theorem Zvp(h:Hb w0 W T A R L)(hk:KnownRes R):
  Calls Zw 13 #[Zs (some ⟨A.q,0,none⟩),O Z 0,.bool true,O Z 0] W fun e w'=>e=Zu (.tuple #[])/\Hb w0 w' T A (R.marked 0 true) L:=by
 refine(Zvf h.hn 0 true (by rw[hk.M];omega)).mono ?_;rintro e w' ⟨rfl,k1,k2⟩;exact⟨rfl,h.step k1 k2⟩
theorem Zqy(h:Hb w0 W T A (R.anew 0) L)(hk:KnownRes R):
  Calls Zw 14 #[Zs (some ⟨A.b,0,none⟩)] W fun e w'=>e=Zu (.agg #[O Z 1,O Z 18,O Z 3])/\Below W.heap.size W w':=
 Zg1 h.hn hk.c0 hk.c1 hk.c2
theorem Zqa(h:Hb w0 W T A {R.anew 0 with s:=s'} L)(hs:Healed (R.anew 0) V 0 0 1 s')(hk:KnownRes R):
  Calls Zw 14 #[Zs (some ⟨A.b,0,none⟩)] W fun e w'=>e=Zu (.agg #[O Z 3,O Z 19,O Z 4])/\Below W.heap.size W w':=by
 have hM:(R.anew 0).M=3:=hk.M;have e0:(R.anew 0).s.cnt 0=1:=hk.c0;have e1:(R.anew 0).s.cnt 1=18:=hk.c1;have e2:(R.anew 0).s.cnt 2=3:=hk.c2;exact Zg1 h.hn (by show s'.cnt 0=3;rw[hs.c0,e0,hM];rfl) (by show s'.cnt 1=19;rw[hs.c1,e1];rfl) (by show s'.cnt 2=4;rw[hs.c2,e2];rfl)
open Go.RowKit
theorem Zw5{P Q:Prop}(h:P)(k:P->Q):Q:=k h
abbrev geoBox(g:Nat):Nat×Array Value×TypeId:=(g,#[O Z 3,O Z 1,O Z 2],23)
abbrev trBox(g:Nat):Nat×Array Value×TypeId:=(g,#[O Z 0,.int .u16 0],33)
abbrev cntBox(g:Nat)(x y z:Int):Nat×Array Value×TypeId:=(g,#[O Z x,O Z y,O Z z],46)
abbrev pairBox(g:Nat)(A:Adr)(cp sp:Nat):Nat×Array Value×TypeId:=(g,pairCells A cp sp,39)
theorem Zl0(W:World):Calls Zw 9 #[] W fun e w'=>e=Zu (.bool true)/\Below W.heap.size W w':=by
 have hg:geoIs ((3:Nat):Int) ((1:Nat):Int) ((2:Nat):Int)=true:=by decide
 have hb1:Below W.heap.size W (W.alloc (.cells #[O Z 3,O Z 1,O Z 2] 23)):=(Zb _ _).alloc (Za _) _;have ha1:At (W.alloc (.cells #[O Z 3,O Z 1,O Z 2] 23)) W.heap.size #[O Z 3,O Z 1,O Z 2] 23:=At.new _ _ _;have HMA:Hid (Calls Zw 11 #[.agg #[O Z 3,O Z 1,O Z 2],O Z 10,.bool false] (W.alloc (.cells #[O Z 3,O Z 1,O Z 2] 23)) fun e w'=>∃T A pp cp sp,e=Zu (Zs (some ⟨pp,0,none⟩))/\Hb (W.alloc (.cells #[O Z 3,O Z 1,O Z 2] 23)) w' T A knR0 [pairBox pp A cp sp,geoBox W.heap.size]):=by
  refine(Zom 3 1 2 10 false _ hg (by omega) (by omega)).mono ?_;rintro e w' ⟨T,A,pp,cp,sp,rfl,k1,k2,k3,k4⟩;refine⟨T,A,pp,cp,sp,rfl,k1.hn,fun x hx=> ?_⟩;rcases List.mem_cons.1 hx with e|e
  ·subst e
   exact⟨k2,k3,(by decide:(101:TypeId)≠39),(by decide:(3:TypeId)≠39),(by decide:(133:TypeId)≠39),(by decide:(203:TypeId)≠39)⟩
  ·rcases List.mem_cons.1 e with e|e
   ·subst e
    exact⟨ha1.below k1.bel ha1.lt,(k1.old _ ha1.lt).1,(by decide:(101:TypeId)≠23),(by decide:(3:TypeId)≠23),(by decide:(133:TypeId)≠23),(by decide:(203:TypeId)≠23)⟩
   ·cases e
 have HSE:Hid (∀w,Calls Zw 40 #[.int .u8 5] w fun e w'=>∃g,e=Zu (.slice (some ⟨g,0,none⟩) 128 128)/\At w' g (ucells knownS).toArray 5/\Below w.heap.size w w'):=fun w=>(Zpx 5 w).mono fun e w' ⟨x1,x2,x3⟩=>⟨_,x1,x2,x3⟩
 have HB1:=hid hb1;have d0:=ha1.cell 0;have d1:=ha1.cell 1;have d2:=ha1.cell 2;have hl1:=ha1.lt;clear hb1 ha1 hg;have HW1:Hid (W.heap.size≤(W.alloc (.cells #[O Z 3,O Z 1,O Z 2] 23)).heap.size):=HB1.out.size;go_enter Tryz.func9,Tryz.ntmps9;go_upto_region 5 with (go_at_call 11;(with_reducible refine HMA.out.mono ?_);rintro e w2 ⟨T2,A,pp,cp,sp,rfl,hb2⟩;have HB2:=hid hb2;clear hb2)
 obtain⟨w1,hw1⟩:∃w1,w1=(W.alloc (.cells #[O Z 3,O Z 1,O Z 2] 23)):=⟨_,rfl⟩;rw[<-hw1]at HB2 HB1 HW1;clear HMA hw1 d0 d1 d2 hl1;go_cut [3]from 14 to 22 (fun s3 wx=>∃tb T R V,s3=Zs (some ⟨tb,0,none⟩)/\Hb w1 wx T A R [trBox tb,pairBox pp A cp sp,geoBox W.heap.size]/\KnR R V);case first=>
  have HZ2:Hid (w1.heap.size≤w2.heap.size):=HB2.out.hn.bel.size;have HNT:Hid (∀x∈ [pairBox pp A cp sp,geoBox W.heap.size],x.1<w2.heap.size):=fun x hx=>(HB2.out.box x hx).1.lt
  have HS:Hid (∀X L,Hb w1 X T2 A knR0 L->pairBox pp A cp sp∈L->X.cell? ⟨pp,2,none⟩=some (Zs (some ⟨A.q,0,none⟩))):=fun X L h hm=>((h.box _ hm).1).cell 2
  have HS5:Hid (∀X T R L,Hb w1 X T A R L->pairBox pp A cp sp∈L->X.cell? ⟨pp,2,none⟩=some (Zs (some ⟨A.q,0,none⟩))):=fun X T R L h hm=>((h.box _ hm).1).cell 2
  go_region_held3 (fun X=>X.cell? ⟨pp,2,none⟩=some (Zs (some ⟨A.q,0,none⟩)))
   (first
    |(refine HS.out _ [pairBox pp A cp sp,geoBox W.heap.size] ?_ List.mem_cons_self;(focus ((repeat (first|with_reducible exact HB2.out|with_reducible refine Zbc ?_|with_reducible refine Zbt ?_|with_reducible exact HB3.out|with_reducible exact HBT.out));done)))
    |(refine HS.out _ [trBox w2.heap.size,pairBox pp A cp sp,geoBox W.heap.size] ?_ (List.mem_cons_of_mem _ List.mem_cons_self);(focus ((repeat (first|with_reducible exact HBT.out|with_reducible refine Zbc ?_|with_reducible refine Zbt ?_));done)))
    |(refine HS5.out _ _ _ _ HB5.out ?_;(first|exact List.mem_cons_self|exact List.mem_cons_of_mem _ List.mem_cons_self))
    |(refine HS5.out _ _ _ _ HFIN.out ?_;(first|exact List.mem_cons_self|exact List.mem_cons_of_mem _ List.mem_cons_self))
    |(refine HS5.out _ _ _ _ (Zbc HB5.out) ?_;(first|exact List.mem_cons_self|exact List.mem_cons_of_mem _ List.mem_cons_self)))
   (first
    |(go_at_call 40;(with_reducible refine(HSE.out _).mono ?_);rintro e w3 ⟨g3,rfl,hs3,hb3⟩;have HS3:=hid hs3;(refine Zw5 (P:=Hb w1 w3 T2 A knR0 [trBox w2.heap.size,pairBox pp A cp sp,geoBox W.heap.size]) ?_ ?_);(focus (refine Zow ?_ hb3;(repeat (first|with_reducible exact HB2.out|(with_reducible refine Zds ?_ ?_;(focus (first|with_reducible rfl|(simp only [Zaa];done))))|with_reducible refine Zbc ?_|with_reducible refine Zbt ?_|with_reducible exact HB3.out|with_reducible exact HBT.out));done));intro hbt;have HZ3:Hid (w1.heap.size≤w3.heap.size):=hbt.hn.bel.size;have HBT:=hid hbt;clear hbt;clear hs3 hb3)
    |(go_at_call 40;(with_reducible refine(HSE.out _).mono ?_);rintro e w3 ⟨g3,rfl,hs3,hb3⟩;have HS3:=hid hs3;(refine Zw5 (P:=Hb w1 w3 T2 A knR0 [pairBox pp A cp sp,geoBox W.heap.size]) ?_ ?_);(focus (refine Zow ?_ hb3;(repeat (first|with_reducible exact HB2.out|with_reducible refine Zbc ?_|with_reducible refine Zbt ?_|with_reducible exact HB3.out|with_reducible exact HBT.out));done));intro hbt;have HZ3:Hid (w1.heap.size≤w3.heap.size):=hbt.hn.bel.size;have HN3:Hid (∀x∈ [pairBox pp A cp sp,geoBox W.heap.size],x.1<w3.heap.size):=fun x hx=>(hbt.box x hx).1.lt;have HB3:=hid hbt;clear hbt;clear hs3 hb3)
    |(go_at_call 12;(with_reducible refine Calls.mono (Zgx (w0:=w1) (T:=T2) (A:=A) (g:=g3) (L:= [trBox w2.heap.size,pairBox pp A cp sp,geoBox W.heap.size]) ?_ ?_ ?_) ?_);(focus ((repeat (first|with_reducible exact HB2.out|(with_reducible refine Zds ?_ ?_;(focus (first|with_reducible rfl|(simp only [Zaa];done))))|with_reducible refine Zbc ?_|with_reducible refine Zbt ?_|with_reducible exact HB3.out|with_reducible exact HBT.out));done));(focus ((repeat (first|(with_reducible refine Zks ?_;(focus (first|with_reducible rfl|(simp only [Zaa];done))))|with_reducible refine Zcc ?_|with_reducible refine hat_drew ?_));done));(focus ((repeat (first|with_reducible exact HS3.out|with_reducible refine Zcc ?_|with_reducible refine hat_drew ?_));done));rintro e w5 ⟨rfl,T5,R5,V5,hb5,hk5⟩;have HB5:=hid hb5;have HK5:=hid hk5;have hx5:=hb5.get 0 rfl;have c0:=hx5.cell 0;have c1:=hx5.cell 1;have f0:=hx5.free 0;have f1:=hx5.free 1;have HFIN:=hid (hb5.zeros HZ2.out (fun x hx=>Nat.ne_of_lt (HNT.out x hx)));clear hx5;clear hb5 hk5)
    |(go_at_call 12;(with_reducible refine Calls.mono (Zgx (w0:=w1) (T:=T2) (A:=A) (g:=g3) (L:= [trBox w3.heap.size,pairBox pp A cp sp,geoBox W.heap.size]) ?_ ?_ ?_) ?_);(focus ((repeat (first|with_reducible exact HB2.out|(with_reducible refine Zds ?_ ?_;(focus (first|with_reducible rfl|(simp only [Zaa];done))))|with_reducible refine Zbc ?_|with_reducible refine Zbt ?_|with_reducible exact HB3.out|with_reducible exact HBT.out));done));(focus ((repeat (first|(with_reducible refine Zks ?_;(focus (first|with_reducible rfl|(simp only [Zaa];done))))|with_reducible refine Zcc ?_|with_reducible refine hat_drew ?_));done));(focus ((repeat (first|with_reducible exact HS3.out|with_reducible refine Zcc ?_|with_reducible refine hat_drew ?_));done));rintro e w5 ⟨rfl,T5,R5,V5,hb5,hk5⟩;have HB5:=hid hb5;have HK5:=hid hk5;have hx5:=hb5.get 0 rfl;have c0:=hx5.cell 0;have c1:=hx5.cell 1;have f0:=hx5.free 0;have f1:=hx5.free 1;have HFIN:=hid (hb5.zeros HZ3.out (fun x hx=>Nat.ne_of_lt (HN3.out x hx)));clear hx5;clear hb5 hk5)
    |(go_at_call 12;(with_reducible refine Calls.mono (Zgx (w0:=w1) (T:=T2) (A:=A) (g:=g3) (L:= [trBox (w3.heap.size+1),pairBox pp A cp sp,geoBox W.heap.size]) ?_ ?_ ?_) ?_);(focus ((repeat (first|with_reducible exact HB2.out|(with_reducible refine Zds ?_ ?_;(focus (first|with_reducible rfl|(simp only [Zaa];done))))|with_reducible refine Zbc ?_|with_reducible refine Zbt ?_|with_reducible exact HB3.out|with_reducible exact HBT.out));done));(focus ((repeat (first|(with_reducible refine Zks ?_;(focus (first|with_reducible rfl|(simp only [Zaa];done))))|with_reducible refine Zcc ?_|with_reducible refine hat_drew ?_));done));(focus ((repeat (first|with_reducible exact HS3.out|with_reducible refine Zcc ?_|with_reducible refine hat_drew ?_));done));rintro e w5 ⟨rfl,T5,R5,V5,hb5,hk5⟩;have HB5:=hid hb5;have HK5:=hid hk5;have hx5:=hb5.get 0 rfl;have c0:=hx5.cell 0;have c1:=hx5.cell 1;have f0:=hx5.free 0;have f1:=hx5.free 1;have HFIN:=hid (hb5.zeros (Nat.le_succ_of_le HZ3.out) (fun x hx=>Nat.ne_of_lt (Nat.lt_succ_of_lt (HN3.out x hx))));clear hx5;clear hb5 hk5)
    |(go_at_call 12;(with_reducible refine Calls.mono (Zgx (w0:=w1) (T:=T2) (A:=A) (g:=g3) (L:= [pairBox pp A cp sp,geoBox W.heap.size]) ?_ ?_ ?_) ?_);(focus ((repeat (first|with_reducible exact HB2.out|with_reducible refine Zbc ?_|with_reducible refine Zbt ?_|with_reducible exact HB3.out|with_reducible exact HBT.out));done));(focus ((repeat (first|(with_reducible refine Zks ?_;(focus (first|with_reducible rfl|(simp only [Zaa];done))))|with_reducible refine Zcc ?_|with_reducible refine hat_drew ?_));done));(focus ((repeat (first|with_reducible exact HS3.out|with_reducible refine Zcc ?_|with_reducible refine hat_drew ?_));done));rintro e w5 ⟨rfl,T5,R5,V5,hb5,hk5⟩;have HB5:=hid hb5;have HK5:=hid hk5;have HFIN:=hid (Zds rfl hb5);clear hb5 hk5))
  all_goals go_wp2_with fail
  all_goals go_meet
  all_goals exact⟨_,_,_,_,rfl,HFIN.out,HK5.out⟩
 case rest=>
  obtain⟨tb,T5,R5,V5,rfl,hb5,hk5⟩:=hcut;have p2:wc.cell? ⟨pp,2,none⟩=some (Zs (some ⟨A.q,0,none⟩)):=(hb5.get 1 rfl).cell 2;have HB5:=hid hb5;have HK:=hid hk5;have HN5:Hid (pp<wc.heap.size):=(hb5.get 1 rfl).lt;clear hb5 hk5
  go_upto_region 10 with (first
   |(go_at_call 13;(with_reducible refine(Zvp HB5.out HK.out.res).mono ?_);rintro e w6 ⟨rfl,hb6⟩;clear p2;have HB6:=hid hb6;have p0:w6.cell? ⟨pp,0,none⟩=some (Zs (some ⟨A.b,0,none⟩)):=(hb6.get 1 rfl).cell 0;clear hb6)
   |(go_at_call 30;(with_reducible refine(Zvq HB6.out HK.out.res HK.out.good).mono ?_);rintro e w7 ⟨rfl,hb7⟩;clear p0;have HB7:=hid hb7;have p0:w7.cell? ⟨pp,0,none⟩=some (Zs (some ⟨A.b,0,none⟩)):=(hb7.get 1 rfl).cell 0;clear hb7)
   |(go_at_call 31;(with_reducible refine(Zws HB7.out HK.out.res HK.out.good HK.out.aside).mono ?_);rintro e w8 ⟨rfl,T8,hb8⟩;clear p0;have HB8:=hid hb8;have p0:w8.cell? ⟨pp,0,none⟩=some (Zs (some ⟨A.b,0,none⟩)):=(hb8.get 1 rfl).cell 0;clear hb8)
   |(go_at_call 14;(with_reducible refine(Zqy HB8.out HK.out.res).mono ?_);rintro e w9 ⟨rfl,hb9⟩;clear p0;have HB9:=hid ((HB8.out.below hb9).push #[O Z 1,O Z 18,O Z 3] 46 (by decide) (by decide) (by decide) (by decide));clear hb9))
  obtain⟨cb,hcb⟩:∃cb,cb=w9.heap.size:=⟨_,rfl⟩;have HBA:Hid (Hb w1 (w9.alloc (.cells #[O Z 1,O Z 18,O Z 3] 46)) T8 A (R5.anew 0) (cntBox cb 1 18 3:: [trBox tb,pairBox pp A cp sp,geoBox W.heap.size])):=by rw[hcb];exact HB9.out
  rw[<-hcb];clear HB9 HB8 HB7 HB6 HB5 hcb;generalize (w9.alloc (.cells #[O Z 1,O Z 18,O Z 3] 46))=wa at*;go_cut [5]from 42 to 52 (fun s5 wx=>∃ub T s',s5=Zs (some ⟨ub,0,none⟩)/\Hb w1 wx T A {R5.anew 0 with s:=s'} (trBox ub::(cntBox cb 1 18 3:: [trBox tb,pairBox pp A cp sp,geoBox W.heap.size]))/\Healed (R5.anew 0) V5 0 0 1 s');case first=>
   have HZA:Hid (w1.heap.size≤wa.heap.size):=HBA.out.hn.bel.size;have HS:Hid (∀X T R L,Hb w1 X T A R L->pairBox pp A cp sp∈L/\geoBox W.heap.size∈L->X.cell? ⟨pp,0,none⟩=some (Zs (some ⟨A.b,0,none⟩))/\X.cell? ⟨pp,2,none⟩=some (Zs (some ⟨A.q,0,none⟩))/\X.cell? ⟨W.heap.size,0,none⟩=some (O Z 3)/\X.cell? ⟨W.heap.size,1,none⟩=some (O Z 1)/\X.cell? ⟨W.heap.size,2,none⟩=some (O Z 2)):=fun X T R L h hm=>⟨((h.box _ hm.1).1).cell 0,((h.box _ hm.1).1).cell 2,((h.box _ hm.2).1).cell 0,((h.box _ hm.2).1).cell 1,((h.box _ hm.2).1).cell 2⟩
   have HM4:Hid (pairBox pp A cp sp∈(cntBox cb 1 18 3:: [trBox tb,pairBox pp A cp sp,geoBox W.heap.size])/\geoBox W.heap.size∈(cntBox cb 1 18 3:: [trBox tb,pairBox pp A cp sp,geoBox W.heap.size])):=⟨by simp,by simp⟩;have HM5:Hid (∀n,pairBox pp A cp sp∈(trBox n::(cntBox cb 1 18 3:: [trBox tb,pairBox pp A cp sp,geoBox W.heap.size]))/\geoBox W.heap.size∈(trBox n::(cntBox cb 1 18 3:: [trBox tb,pairBox pp A cp sp,geoBox W.heap.size]))):=fun n=>⟨by simp,by simp⟩
   have HL4:Hid (∀x∈(cntBox cb 1 18 3:: [trBox tb,pairBox pp A cp sp,geoBox W.heap.size]),x.1≠wa.heap.size):=fun x hx=>Nat.ne_of_lt (HBA.out.box x hx).1.lt
   go_region_held3 (fun X=>X.cell? ⟨pp,0,none⟩=some (Zs (some ⟨A.b,0,none⟩))/\X.cell? ⟨pp,2,none⟩=some (Zs (some ⟨A.q,0,none⟩))/\X.cell? ⟨W.heap.size,0,none⟩=some (O Z 3)/\X.cell? ⟨W.heap.size,1,none⟩=some (O Z 1)/\X.cell? ⟨W.heap.size,2,none⟩=some (O Z 2))
    (first
     |(refine HS.out _ T8 (R5.anew 0) (cntBox cb 1 18 3:: [trBox tb,pairBox pp A cp sp,geoBox W.heap.size]) ?_ HM4.out;(focus ((repeat (first|with_reducible exact HBA.out|with_reducible refine Zbc ?_|with_reducible refine Zbt ?_));done)))
     |exact HS.out _ _ _ _ HBB.out HM4.out
     |exact HS.out _ _ _ _ HBB.out (HM5.out _)
     |exact HS.out _ _ _ _ (Zbc HBB.out) HM4.out
     |exact HS.out _ _ _ _ HFIN.out (HM5.out _))
    (first
     |(go_at_call 15;(with_reducible refine Calls.mono (Zso (w0:=w1) (T:=T8) (A:=A) (R:=R5) (V:=V5) (L:=trBox wa.heap.size::(cntBox cb 1 18 3:: [trBox tb,pairBox pp A cp sp,geoBox W.heap.size])) ?_ HK.out.res HK.out.good) ?_);(focus ((repeat (first|with_reducible exact HBA.out|(with_reducible refine Zds ?_ ?_;(focus (first|with_reducible rfl|(simp only [Zaa];done))))|with_reducible refine Zbc ?_|with_reducible refine Zbt ?_));done));rintro e wb ⟨rfl,Tb,sb,hb,hh⟩;have hx:=hb.get 0 rfl;have c0:=hx.cell 0;have c1:=hx.cell 1;have f0:=hx.free 0;have f1:=hx.free 1;have HFIN:=hid (hb.zeros HZA.out HL4.out);have HBB:=hid hb;have HH:=hid hh;clear hb hh hx)
     |(go_at_call 15;(with_reducible refine Calls.mono (Zso (w0:=w1) (T:=T8) (A:=A) (R:=R5) (V:=V5) (L:=(cntBox cb 1 18 3:: [trBox tb,pairBox pp A cp sp,geoBox W.heap.size])) ?_ HK.out.res HK.out.good) ?_);(focus ((repeat (first|with_reducible exact HBA.out|with_reducible refine Zbc ?_|with_reducible refine Zbt ?_));done));rintro e wb ⟨rfl,Tb,sb,hb,hh⟩;have HFIN:=hid (Zds rfl hb);have HBB:=hid hb;have HH:=hid hh;clear hb hh))
   all_goals go_wp2_with fail
   all_goals go_meet
   all_goals exact⟨_,_,_,rfl,HFIN.out,HH.out⟩
  case rest=>
   obtain⟨ub,T10,s10,rfl,hb10,hh⟩:=hcut;have p0:wc.cell? ⟨pp,0,none⟩=some (Zs (some ⟨A.b,0,none⟩)):=(hb10.get 3 rfl).cell 0;have HB10:=hid hb10;have HH:=hid hh;have HP10:Hid (pp<wc.heap.size):=(hb10.get 3 rfl).lt;clear hb10 hh HBA
   go_wp2_with (first
    |(go_at_call 14;(with_reducible refine(Zqa HB10.out HH.out HK.out.res).mono ?_);rintro e w11 ⟨rfl,hb11⟩;clear p0;have hp:=(HB10.out.below hb11).push #[O Z 3,O Z 19,O Z 4] 46 (by decide) (by decide) (by decide) (by decide);have p0:(w11.alloc (.cells #[O Z 3,O Z 19,O Z 4] 46)).cell? ⟨pp,0,none⟩=some (Zs (some ⟨A.b,0,none⟩)):=(hp.get 4 rfl).cell 0;have HB11:=hid hp;clear hb11 hp)
    |(go_at_call 34;(with_reducible refine(Zuw HB11.out HH.out HK.out.res HK.out.good HK.out.blk).mono ?_);rintro e w12 ⟨gi,ci,rfl,hb12,hci,hli⟩;clear p0;have hp:=HB11.out.below hb12;have n0:w12.cell? ⟨w11.heap.size,0,none⟩=some (O Z 3):=(hp.get 0 rfl).cell 0;have n1:w12.cell? ⟨w11.heap.size,1,none⟩=some (O Z 19):=(hp.get 0 rfl).cell 1;have n2:w12.cell? ⟨w11.heap.size,2,none⟩=some (O Z 4):=(hp.get 0 rfl).cell 2;have v0:w12.cell? ⟨ub,0,none⟩=some (O Z 0):=(hp.get 1 rfl).cell 0;have v1:w12.cell? ⟨ub,1,none⟩=some (.int .u16 0):=(hp.get 1 rfl).cell 1;have m0:w12.cell? ⟨cb,0,none⟩=some (O Z 1):=(hp.get 2 rfl).cell 0;have m1:w12.cell? ⟨cb,1,none⟩=some (O Z 18):=(hp.get 2 rfl).cell 1;have m2:w12.cell? ⟨cb,2,none⟩=some (O Z 3):=(hp.get 2 rfl).cell 2;have t0:w12.cell? ⟨tb,0,none⟩=some (O Z 0):=(hp.get 3 rfl).cell 0;have t1:w12.cell? ⟨tb,1,none⟩=some (.int .u16 0):=(hp.get 3 rfl).cell 1;have HB12:=hid hp;clear hb12 hp))
   go_ret;exact⟨rfl,HB1.out.trans (HB12.out.hn.bel.mono HW1.out)⟩
open Go.RowKit
structure HcP (R:RS) (V:Nat->Nat->Sec) (M C S ring:Nat) (lazy:Bool) (a b:Nat):Prop where
 good:Good R V
 idle:R.lazy=true\/R.wait= []
 bud:Bud R a b
 up:R.fr=fun _=> -1
 aside:∀q,q%3≠0->R.s.pos q=none
 M:R.M=M
 C:R.C=C
 S:R.S=S
 size:R.size=ring
 lazy:R.lazy=lazy
theorem HcP.more(h:HcP R V M C S ring lazy a b)(ha:a≤a')(hb:b≤b'):HcP R V M C S ring lazy a' b':=⟨h.good,h.idle,h.bud.mono ha hb,h.up,h.aside,h.M,h.C,h.S,h.size,h.lazy⟩
theorem HcP.next{R':RS}{V':Nat->Nat->Sec}(h:HcP R V M C S ring lazy a b)(hs:Same R R')(hg:Good R' V')(hi:R'.lazy=true\/R'.wait= [])(hb:Bud R' a' b'):HcP R' V' M C S ring lazy a' b':=
 ⟨hg,hi,hb,hs.fr.trans h.up,fun q hq=>(hs.base.aside q hq).trans (h.aside q hq),hs.M.trans h.M,hs.C.trans h.C,hs.S.trans h.S,hs.size.trans h.size,hs.lazy.trans h.lazy⟩
theorem HcP.begun(hg:geoIs M C S=true)(h5:5≤ring)(h6:ring≤2048):HcP (made0R M C S ring lazy) zeroV M C S ring lazy 10000 3000:=by
 have g4:=(Zbe hg).2.2.2;have hm:=Zey (M:=M) (C:=C) (S:=S) g4 h5 h6;refine⟨Zfb hg h5 h6 hm,.inr rfl,⟨?_,?_,?_,by show 1≤_;omega,ring+1,hm.small,by show ring+1+0≤3000;omega⟩,rfl,hm.aside,rfl,rfl,rfl,rfl,rfl⟩
 ·show(formed _ _ _ _).cnt 0≤_
  rw[hm.c0];omega
 ·show(formed _ _ _ _).cnt 1≤_
  rw[hm.c1];omega
 ·show(formed _ _ _ _).cnt 2≤_
  rw[hm.c2];omega
section
variable {w0 W:World} {T:Nat->Nat} {A:Adr} {R:RS} {V:Nat->Nat->Sec} {L:List (Nat×Array Value×TypeId)} {M C S ring:Nat} {lazy:Bool} {a b:Nat}
theorem Zut(h:Hb w0 W T A R L)(hp:HcP R V M C S ring lazy a b)(hin:Within a b)(pv:Value)(us:List (Int×List UInt8))(hu:PutSeg w0 pv us):
  Calls Zw 12 #[Zs (some ⟨A.q,0,none⟩),pv] W fun e w'=>(∃c:Nat,e=Zu (.agg #[O Z 0,.int .u16 c]))/\∃T' R' V',Hb w0 w' T' A R' L/\HcP R' V' M C S ring lazy (a+1000000) (b+8*us.length+4):=by
 refine(Zwr (h.lat hp.good hp.idle) hp.bud hin pv us hu).mono ?_;rintro e w' ⟨rfl,T',R',V',hl,hs,hb,hsm,-⟩;exact⟨⟨_,rfl⟩,T',R',V',h.step hl.hn hs,hp.next hsm hl.good hl.idle hb⟩
theorem Zvo(h:Hb w0 W T A R L)(hp:HcP R V M C S ring lazy a b)(m:Nat)(hm:m<M):
  Calls Zw 13 #[Zs (some ⟨A.q,0,none⟩),O Z m,.bool true,O Z 0] W fun e w'=>e=Zu (.tuple #[])/\Hb w0 w' T A (R.marked m true) L:=by
 refine(Zvf h.hn m true (by rw[hp.M];exact hm)).mono ?_;rintro e w' ⟨rfl,k1,k2⟩;exact⟨rfl,h.step k1 k2⟩
theorem Zr7(h:Hb w0 W T A (R.marked m true) L)(hp:HcP R V M C S ring lazy a b)(hin:Within a b)(hw:R.wait= [])(hm:m<M)(s:Nat)(hs:s<S):
  Calls Zw 15 #[Zs (some ⟨A.b,0,none⟩),.agg #[O Z M,O Z C,O Z S],Zs (some ⟨A.q,0,none⟩),O Z m,O Z s] W fun e w'=>e=Zu (.agg #[O Z 0,.int .u16 0])/\∃T' s',Hb w0 w' T' A {R.marked m true with s:=s'} L/\Healed (R.marked m true) V m (s*C) C s':=by
 have hM:(R.marked m true).M=M:=hp.M;have hC:(R.marked m true).C=C:=hp.C;have hS:(R.marked m true).S=S:=hp.S;have hdn:∀r,(R.marked m true).dn m r=true:=fun r=>by
  unfold RS.dn RS.marked;simp
 have i1:=hin.a;have i2:=hin.b;have b0:=hp.bud.c0;have b1:=hp.bud.c1;have b2:=hp.bud.c2;have k:=Zvb (h.lat (hp.good.mark hp.up m) (.inr hw)) hw m s (by rw[hM];exact hm) (by rw[hS];exact hs) (fun k _=>hdn _) ((hp.good.allUp hp.up).sub fun _ _=>trivial) (by show R.s.cnt 0≤_;omega) (by show R.s.cnt 1≤_;omega) (by show R.s.cnt 2≤_;omega) (hp.bud.small' (by omega));have e0:(.agg #[O Z (R.marked m true).M,O Z (R.marked m true).C,O Z (R.marked m true).S]:Value)=.agg #[O Z M,O Z C,O Z S]:=by rw[hM,hC,hS]
 rw[e0]at k;refine k.mono ?_;rintro e w' ⟨rfl,T',s',k1,k2,k3⟩;rw[hC]at k3;exact⟨rfl,T',s',h.step k1.hn k2,k3⟩
theorem Zpf(h:Hb w0 W T A (R.marked m true) L)(h0:R.s.cnt 0=x)(h1:R.s.cnt 1=y)(h2:R.s.cnt 2=z):
  Calls Zw 14 #[Zs (some ⟨A.b,0,none⟩)] W fun e w'=>e=Zu (.agg #[O Z x,O Z y,O Z z])/\Below W.heap.size W w':=Zg1 h.hn h0 h1 h2
theorem Zo6(h:Hb w0 W T A {R.marked m true with s:=s'} L)(hs:Healed (R.marked m true) V m q C s')(hM:R.M=M)(hP:C*(M-1)=P)(h0:R.s.cnt 0=x)(h1:R.s.cnt 1=y)(h2:R.s.cnt 2=z):
  Calls Zw 14 #[Zs (some ⟨A.b,0,none⟩)] W fun e w'=>e=Zu (.agg #[O Z (x+(P:Int)),O Z (y+(C:Int)),O Z (z+1)])/\Below W.heap.size W w':=by
 have e0:(R.marked m true).s.cnt 0=x:=h0;have e1:(R.marked m true).s.cnt 1=y:=h1;have e2:(R.marked m true).s.cnt 2=z:=h2;have eM:(R.marked m true).M=M:=hM;exact Zg1 h.hn (by show s'.cnt 0=_;rw[hs.c0,e0,eM,hP]) (by show s'.cnt 1=_;rw[hs.c1,e1]) (by show s'.cnt 2=_;rw[hs.c2,e2])
theorem Zqi(hp:HcP R V M C S ring lazy a b)(h:Hb w0 W T A R L):∃x y z:Int,R.s.cnt 0=x/\R.s.cnt 1=y/\R.s.cnt 2=z/\0≤x/\x≤a/\0≤y/\y≤a/\0≤z/\z≤a:=by
 obtain⟨lg,vw,X,hr⟩:=h.hn.rw;obtain⟨gs,ptr,tg,dp,hin⟩:=hr.bay;exact⟨_,_,_,rfl,rfl,rfl,hin.cl 0,hp.bud.c0,hin.cl 1,hp.bud.c1,hin.cl 2,hp.bud.c2⟩
end
end Go.Proofs.YtljjjpakcbcioaaGreat
namespace Go.Proofs.YtljjjpakcbcioaaGreat
open Value renaming int→O,pointer→Zs,slice→Zt
open IntKind renaming i64→Z
open Ending renaming returned→Zu
open Obj renaming cells→Zv
open Go.Proofs.Tryz renaming prog→Zw
open Go.RowKit
open Lib(hid)
variable {A:Adr} {s:BaySt} {lazy:Bool} {x y:Dev} {z:Int} {l:List Bool} {X:List OP} {D:List UInt8} {C M P S a b hf j k n ring:Nat} {T:Nat->Nat} {V:Nat->Nat->Sec} {lg:Option Nat} {R:RS} {u v vw:Value} {W w w' w0:World}
theorem Zyn(x y:UInt8):(((x.toNat:Nat):Int) !=((y.toNat:Nat):Int))= !decide (x=y):=by
 by_cases h:x=y
 ·subst h;simp
 ·have:¬x.toNat=y.toNat:=fun e=>h (UInt8.toNat_inj.1 e)
  have h2:¬((x.toNat:Nat):Int)=((y.toNat:Nat):Int):=by omega
  simp[h,h2]
theorem Zxm{α:Type}{l m:List α}(h:l.take k=m.take k)(hl:k<l.length)(hm:k<m.length)(he:l[k]=m[k]):l.take (k+1)=m.take (k+1):=by
 rw[List.take_succ_eq_append_getElem hl,List.take_succ_eq_append_getElem hm,h,he]
theorem disk_settle_crash(T:Nat->Nat)(t p:Nat)(d:Dsk)(kb:Nat)(keep:Nat->Bool)(w:World)(h:DiskAt w T t p d)(hm:d.cache.length≤1000000)
  (hk:∀(i:Nat) (W:World),i<d.cache.length->Chg (fun k=>T k=t) w W->Calls Zw 137 (#[O Z (i:Int)]++ #[Zs (some ⟨kb,0,none⟩)]) W fun e W'=>e=Zu (.bool (keep i))/\Below W.heap.size W W'):
  Calls Zw 134 #[Zs (some ⟨p,0,none⟩),.func (.func 137) #[] #[Zs (some ⟨kb,0,none⟩)]] w fun e w'=>e=Zu (.tuple #[])/\DiskAt w' T t p ⟨settleTo d.last d.cache keep d.cache.length,[],d.failed⟩/\Chg (fun k=>T k=t) w w':=by
 obtain⟨gl,gm,cv,f,h1,h2,h3,h4,h5,h6,h7,h8⟩:=h.at';obtain⟨ca,cc,rfl⟩:=Zab h3;have HS:Hid (Settled w w p gl gm (Zt ca d.cache.length cc) f d keep 0):=⟨h1,h2,h3,h4,Zl _ _⟩;have HK:=hid hk;have HD:=hid h;have c1:w.cell? ⟨p,1,none⟩=some (Zt ca d.cache.length cc):=h1.cell 1;clear h h1 h2 h3 h4 h5 hk;go_enter Tryz.func134,Tryz.ntmps134;go_wp2;go_loopw [11] (fun q wr=>∃i:Nat,i≤d.cache.length/\q=O Z i/\Settled w wr p gl gm (Zt ca d.cache.length cc) f d keep i) (fun q _=>d.cache.length-(intOf q).toNat);case atStart=>exact⟨0,by omega,rfl,HS.out⟩
 case round=>
  clear HS c1;obtain⟨i,hi,rfl,hs⟩:=hrel;by_cases hin:i<d.cache.length
  ·obtain⟨gc,cc',hve,_,hgcl⟩:=Zas hs.h3 (by omega)
   simp only [Zn]at hve;obtain⟨rfl,_,rfl⟩:=hve;have hcl:=HD.out.clen _ (Zj hin);have hcin:=HD.out.cin _ (Zj hin);have hgct:T gc=t:=h8 gc rfl;obtain⟨x,hx⟩:∃x,x=d.cache[i]:=⟨_,rfl⟩;rw[<-hx]at hcl hcin;have hrw:wr.rangeAt gc (i*129) (wcell x):=fun j u hj=>by
    have hj2:j<129:=by have:=(List.getElem?_eq_some_iff.1 hj).1;rwa [Zc6 hcl]at this
    rw[hs.h3.cellAt (i*129+j) (by omega),Zhl HD.out.clen i j hin hj2,<-hx,hj]
   have HRW:=hid hrw;have hwl:=Zc6 hcl;have HSS:=hid hs;have K1:Hid (i+1≤d.cache.length):=hin;have HNX:Hid (settleTo d.last d.cache keep (i+1)=if keep i then (settleTo d.last d.cache keep i).set x.1 x.2 else settleTo d.last d.cache keep i):=by
    show(match d.cache[i]? with|some x=>if keep i then (settleTo d.last d.cache keep i).set x.1 x.2 else settleTo d.last d.cache keep i|none=>settleTo d.last d.cache keep i)=_
    rw[Zh hin,<-hx]
   have HX:=hid hx;have hchT:Chg (fun k=>T k=t) w (wr.alloc (Zv (wcell x).toArray 232)):=(hs.ch.mono (fun k hk=>by subst hk;exact h6)).alloc _;have HC:=hid (HK.out i (wr.alloc (Zv (wcell x).toArray 232)) hin hchT);clear hs hrw hx hchT HK;cases hkp:keep i
   ·rw[hkp]at HC HNX
    go_wp2_with (first
     |(refine wpList_load_mid rfl 232 _ rfl gc (i*129) rfl (wcell x) _ HRW.out Tryz.underlying232 rfl (by rw[hwl];exact Zb0) ?_)
     |(refine Zbg rfl 232 rfl wzero Zej ?_)
     |(refine Za3 rfl 232 _ _ rfl wzero (wcell x).toArray rfl rfl (by rw[List.size_toArray,hwl];exact Zb0) (Zec.trans (by rw[List.size_toArray,hwl])) (all_oneCell_toArray (Zfn x)) ?_)
     |(go_at_call 137;refine HC.out.mono ?_;rintro e w2 ⟨rfl,hb2⟩))
    exact⟨⟨i+1,K1.out,by go_num,HSS.out.next_same (((Zl _ _).alloc _).trans (Zm hb2 _)) HNX.out⟩,by simp[intOf];omega⟩
   ·rw[hkp]at HC HNX
    go_wp2_with (first
     |(refine wpList_load_mid rfl 232 _ rfl gc (i*129) rfl (wcell x) _ HRW.out Tryz.underlying232 rfl (by rw[hwl];exact Zb0) ?_)
     |(refine Zbg rfl 232 rfl wzero Zej ?_)
     |(refine Za3 rfl 232 _ _ rfl wzero (wcell x).toArray rfl rfl (by rw[List.size_toArray,hwl];exact Zb0) (Zec.trans (by rw[List.size_toArray,hwl])) (all_oneCell_toArray (Zfn x)) ?_)
     |(go_at_call 137;refine HC.out.mono ?_;rintro e w2 ⟨rfl,hb2⟩))
    have hal:Chg (fun _=>False) wr w2:=((Zl _ _).alloc _).trans (Zm hb2 _);have p0:w2.cell? ⟨p,0,none⟩=some (Zt (some ⟨gl,0,none⟩) d.last.length d.last.length):=(HSS.out.h1.mod hal (fun h=>h)).cell 0;have b0:At w2 wr.heap.size (wcell x).toArray 232:=(At.new wr (wcell x).toArray 232).below hb2 (by rw[Zaa];omega);have HNS:=hid (fun (W':World) (hc:Chg (fun _=>False) wr W')=>HSS.out.next_set hc HNX.out HD.out.len HD.out.clen hcin hcl);have hgl2:At w2 gl (secCells (settleTo d.last d.cache keep i)).toArray 229:=HSS.out.h2.mod hal (fun h=>h);have hgsz:(secCells (settleTo d.last d.cache keep i)).length=d.last.length*128:=by rw[Zau (Zav HD.out.len HD.out.clen keep i),Zak]
    have hglp:gl≠p:=fun e=>by
     have a:=HSS.out.h1;have b:=HSS.out.h2;subst e;unfold At at a b;rw[a]at b;simp only [Zg,Obj.cells.injEq]at b;exact absurd b.2.1 (by decide)
    have hglw:gl≠wr.heap.size:=fun e=>by have:=HSS.out.h2.lt;omega
    obtain⟨a,s⟩:=x;have hcin':a<d.last.length:=hcin;have hcl':s.length=128:=hcl;have b1:w2.cell? ⟨wr.heap.size,0,none⟩=some (O Z (a:Int)):=b0.cell 0;have b2:w2.rangeAt wr.heap.size 1 (ucells s):=fun j u hj=>by
     rw[b0.cell,List.getElem?_toArray,Nat.add_comm 1 j];exact hj
    have b3:w2.there gl (a*128) 128:=fun j hj=>⟨by rw[hgl2.cell,List.getElem?_toArray,Zh (by omega)];rfl,hgl2.free _⟩
    have hul:(ucells s).length=128:=by rw[Zag,hcl']
    have hu:Tryz.prog.underlying 229=some (.array 128 5):=Tryz.underlying229;have hsz:(Tryz.prog.info? 229).map (·.size)=some (ucells s).length:=by rw[hul];exact Zbi
    have hone:∀v∈ucells s,v.oneCell'=true:=Za8 s;have i0:(0:Int)≤(a:Int):=Int.natCast_nonneg _;have i1:(a:Int)<(d.last.length:Int):=by omega
    have hfew:=HD.out.few;have HS0:w2.drew.cell? ⟨p,0,none⟩=some (Zt (some ⟨gl,0,none⟩) d.last.length d.last.length)/\w2.drew.cell? ⟨wr.heap.size,0,none⟩=some (O Z (a:Int))/\w2.drew.rangeAt wr.heap.size 1 (ucells s)/\w2.drew.there gl (a*128) 128:=⟨p0,b1,b2,b3⟩;have hset:=(Zd6 (w:=w2.drew) hgl2 (Zav HD.out.len HD.out.clen keep i) (a:=a) (s:=s) (by rw[Zak];exact hcin') hcl');have HS1:(w2.drew.setCells gl (a*128) (ucells s)).cell? ⟨p,0,none⟩=some (Zt (some ⟨gl,0,none⟩) d.last.length d.last.length)/\(w2.drew.setCells gl (a*128) (ucells s)).cell? ⟨wr.heap.size,0,none⟩=some (O Z (a:Int))/\(w2.drew.setCells gl (a*128) (ucells s)).rangeAt wr.heap.size 1 (ucells s)/\(w2.drew.setCells gl (a*128) (ucells s)).there gl (a*128) 128:=
     ⟨(hset.2.cell (p:=⟨p,0,none⟩) (block_lt_of_cell p0) (Ne.symm hglp)).trans p0,(hset.2.cell (p:=⟨wr.heap.size,0,none⟩) b0.lt (Ne.symm hglw)).trans b1,fun j u hj=>(hset.2.cell (p:=⟨wr.heap.size,1+j,none⟩) b0.lt (Ne.symm hglw)).trans (b2 j u hj),
      fun j hj=>⟨by rw[hset.1.cell,List.getElem?_toArray,Zh (by rw[Zau (fun y hy=>by rcases List.mem_or_eq_of_mem_set hy with hy|hy;exact Zav HD.out.len HD.out.clen keep i y hy;rw[hy];exact hcl'),List.length_set,Zak];omega)];rfl,hset.1.free _⟩⟩
    have HSA:=hid HS0;have HSB:=hid HS1;clear HS0 HS1 hset b0 hgl2 HSS;go_region_held3 (fun w'=>w'.cell? ⟨p,0,none⟩=some (Zt (some ⟨gl,0,none⟩) d.last.length d.last.length)/\w'.cell? ⟨wr.heap.size,0,none⟩=some (O Z (a:Int))/\w'.rangeAt wr.heap.size 1 (ucells s)/\w'.there gl (a*128) 128)
     (first|exact HSA.out|exact HSB.out)
     (first|fail)
    go_wp2;exact⟨⟨i+1,K1.out,by go_num,HNS.out w2.drew hal.drew⟩,by simp[intOf];omega⟩
  ·obtain rfl:i=d.cache.length:=by omega
   have e0:wr.cell? ⟨p,1,none⟩=some (Zt ca d.cache.length cc):=hs.h1.cell 1;have e0f:=hs.h1.free 1;have HSS:=hid hs;have hp1:=(hs.h1.set 1 (Zt none 0 0));have e2:(wr.setCell ⟨p,1,none⟩ (Zt none 0 0)).cell? ⟨p,2,none⟩=some (.map (some gm)):=hp1.cell 2;have hset:Chg (fun k=>k=p) wr (wr.setCell ⟨p,1,none⟩ (Zt none 0 0)):=Zk (S:=fun k=>k=p) (Zl _ _) ⟨p,1,none⟩ (.inl rfl) _;have hpm:p≠gm:=fun e=>hs.h4.noCells (e ▸ hs.h1)
   have hglm:gl≠gm:=fun e=>hs.h4.noCells (e ▸ hs.h2)
   have hglp:gl≠p:=fun e=>by
    have a:=hs.h1;have b:=hs.h2;subst e;unfold At at a b;rw[a]at b;simp only [Zg,Obj.cells.injEq]at b;exact absurd b.2.1 (by decide)
   have HM:Hid ((wr.setCell ⟨p,1,none⟩ (.slice none 0 0)).imap Zw 3 3 gm d.cache.length f):=hs.h4.mod hset (Ne.symm hpm);have HP:=hid hp1;clear hs hp1 HK;go_wp2_with (refine Zdl rfl _ 197 rfl Tryz.underlying197 rfl HM.out ?_;intro w5 hm5 hc5);go_end0;have s1:=HSS.out;refine⟨rfl,⟨⟨gl,gm,.slice none 0 0,_,?_,?_,World.ownsRow_nil _ _ _ _,hm5,Seen.nil,h6,h7,fun g hg=>by simp[Value.ownBlock]at hg⟩,HD.out.tag,Zav HD.out.len HD.out.clen keep _,fun x hx=>by simp at hx,fun x hx=>by simp at hx,by rw[Zak];exact HD.out.few,by rw[Zak];exact HD.out.some'⟩,?_⟩
   ·have:=HP.out.mod hc5 hpm
    simpa [Zak]using this
   ·exact(s1.h2.mod hset hglp).mod hc5 hglm
   ·exact((s1.ch.mono (fun k hk=>by subst hk;exact h6)).trans (hset.mono (fun k hk=>by subst hk;exact HD.out.tag))).trans (hc5.mono (fun k hk=>by subst hk;exact h7))
def Bitz(w:World)(T:Nat->Nat)(v:Value)(l:List Bool):Prop:=
 ∃a c,v=Zt a l.length c/\l.length≤9223372036854775807/\(l= []\/∃b o,a=some ⟨b,o,none⟩/\b<w.heap.size/\T b=0/\∀j (h:j<l.length),w.cell? ⟨b,o+j,none⟩=some (.bool l[j]))
def Bitzz(w:World)(T:Nat->Nat)(v:Value)(ls:List (List Bool)):Prop:=
 ∃a c,v=Zt a ls.length c/\ls.length≤9223372036854775807/\(ls= []\/∃b o,a=some ⟨b,o,none⟩/\b<w.heap.size/\T b=0/\∀j (h:j<ls.length),∃u,w.cell? ⟨b,o+j,none⟩=some u/\Bitz w T u ls[j])
theorem Bitz.keep{S:Nat->Prop}(h:Bitz w T v l)(hc:Chg S w w')(hS:∀k,S k->T k≠0):Bitz w' T v l:=by
 obtain⟨a,c,h1,h2,h3⟩:=h;refine⟨a,c,h1,h2,?_⟩;rcases h3 with h3|⟨b,o,h3,h4,h5,h6⟩
 ·exact .inl h3
 ·exact .inr ⟨b,o,h3,Zd h4 hc.size,h5,fun j hj=>(hc.cell (p:=⟨b,o+j,none⟩) h4 (fun hs=>hS b hs h5)).trans (h6 j hj)⟩
theorem Bitzz.keep{S:Nat->Prop}{l:List (List Bool)}(h:Bitzz w T v l)(hc:Chg S w w')(hS:∀k,S k->T k≠0):Bitzz w' T v l:=by
 obtain⟨a,c,h1,h2,h3⟩:=h;refine⟨a,c,h1,h2,?_⟩;rcases h3 with h3|⟨b,o,h3,h4,h5,h6⟩
 ·exact .inl h3
 ·refine .inr ⟨b,o,h3,Zd h4 hc.size,h5,fun j hj=> ?_⟩
  obtain⟨u,q1,q2⟩:=h6 j hj;exact⟨u,(hc.cell (p:=⟨b,o+j,none⟩) h4 (fun hs=>hS b hs h5)).trans q1,q2.keep hc hS⟩
theorem Bitz.nil(w:World)(T:Nat->Nat):Bitz w T (Zt none 0 0) []:=⟨none,0,rfl,by simp,.inl rfl⟩
theorem Bitz.shape(h:Bitz w T v l):∃a c,v=Zt a l.length c:=by
 obtain⟨a,c,h1,_⟩:=h;exact⟨a,c,h1⟩
theorem Bitzz.shape{l:List (List Bool)}(h:Bitzz w T v l):∃a c,v=Zt a l.length c:=by
 obtain⟨a,c,h1,_⟩:=h;exact⟨a,c,h1⟩
theorem crash_keep(T:Nat->Nat)(kb i:Nat)(v:Value)(l:List Bool)(w:World)(hk:At w kb #[v] 158)(hb:Bitz w T v l)(hi:i≤1000000):
  Calls Zw 137 #[O Z i,Zs (some ⟨kb,0,none⟩)] w fun e w'=>e=Zu (.bool (l.getD i false))/\Below w.heap.size w w':=by
 obtain⟨a,c,rfl,hn,h3⟩:=hb;have c0:w.cell? ⟨kb,0,none⟩=some (Zt a l.length c):=hk.cell 0;clear hk;by_cases h:i<l.length
 ·rcases h3 with h3|⟨b,o,rfl,h4,h5,h6⟩
  ·rw[h3]at h;simp at h
  ·have c1:=h6 i h
   have e:l.getD i false=l[i]:=by rw[Zi,Zh h];rfl
   rw[e];clear h6 h5 e;generalize l[i]=x at*;generalize l.length=n at*;go_enter Tryz.func137,Tryz.ntmps137;go_wp2;go_ret;exact⟨rfl,Zb _ _⟩
 ·have e:l.getD i false=false:=by rw[Zi,List.getElem?_eq_none (by omega)];rfl
  rw[e];clear h3 e;generalize l.length=n at*;go_enter Tryz.func137,Tryz.ntmps137;go_wp2;go_ret;exact⟨rfl,Zb _ _⟩
def Dsk.crash(d:Dsk)(l:List Bool):Dsk:=⟨settleTo d.last d.cache (fun i=>l.getD i false) d.cache.length,[],d.failed⟩
theorem disk_crash(T:Nat->Nat)(t p:Nat)(d:Dsk)(v:Value)(l:List Bool)(w:World)(h:DiskAt w T t p d)(ht:2≤t)(hv:∀k,w.heap.size≤k->T k=0)(hm:d.cache.length≤1000000)(hb:Bitz w T v l):
  Calls Zw 88 #[Zs (some ⟨p,0,none⟩),v] w fun e w'=>e=Zu (.tuple #[])/\DiskAt w' T t p (d.crash l)/\Chg (fun k=>T k=t) w w':=by
 have h0:Chg (fun k=>T k=t) w (w.alloc (Zv #[v] 158)):=(Zl _ _).alloc _;have hA:At (w.alloc (Zv #[v] 158)) w.heap.size #[v] 158:=At.new _ _ _;have hd1:DiskAt (w.alloc (Zv #[v] 158)) T t p d:=h.keep (S:=fun _=>False) ((Zl _ _).alloc _) (fun _ _ h=>h);have hb1:Bitz (w.alloc (Zv #[v] 158)) T v l:=hb.keep h0 (fun k hk=>by omega);have hs:=hid (disk_settle_crash T t p d w.heap.size (fun i=>l.getD i false) _ hd1 hm (fun i W hi hc=>crash_keep T w.heap.size i v l W (hA.mod hc (by rw[hv _ (Za _)];omega)) (hb1.keep hc (fun k hk=>by omega)) (by omega)));obtain⟨va,vc,rfl⟩:=hb.shape;clear h hA hd1 hb1 hb;go_enter Tryz.func88,Tryz.ntmps88;go_wp2_with (go_at_call 134;refine hs.out.mono ?_;rintro e w1 ⟨rfl,r1,r2⟩);go_end0;exact⟨rfl,r1,h0.trans r2⟩
def Dev.crash(x:Dev)(l:List Bool):Dev:=⟨x.d.crash l,x.worn,x.left⟩
def BaySt.crashAt(s:BaySt)(k:Nat)(l:List Bool):BaySt:={s with pos:=fun q=>if q=k*3 then (s.pos (k*3)).map (·.crash l)else s.pos q}
def BaySt.come(s:BaySt)(k:Nat):BaySt:=
 match s.pos (k*3+2)with
 |none=>s
 |some y=>{s with pos:=fun q=>if q=k*3 then some y else if q=k*3+2 then none else s.pos q}
def BaySt.cutTo(s:BaySt)(ks:List (List Bool)):Nat->BaySt
 |0=>s
 |k+1=>((s.cutTo ks k).crashAt k (ks.getD k [])).come k
def BaySt.cut(s:BaySt)(ks:List (List Bool)):BaySt:={s.cutTo ks s.n with dark:=false,trip:= -1}
theorem come_n(s:BaySt)(k:Nat):(s.come k).n=s.n:=by unfold BaySt.come;split<;>rfl
theorem cutTo_n(s:BaySt)(ks:List (List Bool)):∀k,(s.cutTo ks k).n=s.n
 |0=>rfl
 |k+1=>by
  show(((s.cutTo ks k).crashAt k (ks.getD k [])).come k).n=s.n
  rw[come_n];exact cutTo_n s ks k
theorem come_cnt(s:BaySt)(k:Nat):(s.come k).cnt=s.cnt:=by unfold BaySt.come;split<;>rfl
theorem cutTo_cnt(s:BaySt)(ks:List (List Bool)):∀k,(s.cutTo ks k).cnt=s.cnt
 |0=>rfl
 |k+1=>by
  show(((s.cutTo ks k).crashAt k (ks.getD k [])).come k).cnt=s.cnt
  rw[come_cnt];exact cutTo_cnt s ks k
theorem come_pos(s:BaySt)(k q:Nat)(hq:q/3≠k):(s.come k).pos q=s.pos q:=by
 unfold BaySt.come;split
 ·rfl
 ·show(if q=k*3 then _ else if q=k*3+2 then none else s.pos q)=_
  rw[Ze (by omega),Ze (by omega)]
theorem cutTo_pos(s:BaySt)(ks:List (List Bool)):∀k q,k≤q/3->(s.cutTo ks k).pos q=s.pos q
 |0,q,_=>rfl
 |k+1,q,h=>by
  show(((s.cutTo ks k).crashAt k (ks.getD k [])).come k).pos q=s.pos q
  rw[come_pos _ _ _ (by omega)];show(if q=k*3 then _ else (s.cutTo ks k).pos q)=_
  rw[Ze (by omega)];exact cutTo_pos s ks k q (by omega)
theorem BayIn.move{gs:Nat}{ptr:Nat->Option Nat}{tg dp:Nat->Nat}(h:BayIn w T b s gs ptr tg dp){i:Nat}{dv:Nat}(hi:i<3*s.n)(hj:j<3*s.n)(hij:i≠j)(hy:s.pos j=some y)(hp:ptr j=some dv)
  (he:w'=(w.setCell ⟨gs,i,none⟩ (Zs (some ⟨dv,0,none⟩))).setCell ⟨gs,j,none⟩ (.pointer none)):
  BayIn w' T b {s with pos:=fun q=>if q=i then some y else if q=j then none else s.pos q} gs (fun q=>if q=i then some dv else if q=j then none else ptr q) (fun q=>if q=i then tg j else tg q) (fun q=>if q=i then dp j else dp q)/\Chg (fun q=>q=gs) w w':=by
 have hc:Chg (fun q=>q=gs) w w':=by
  rw[he];exact Zk (S:=fun q=>q=gs) (Zk (S:=fun q=>q=gs) (Zl _ _) ⟨gs,i,none⟩ (.inl rfl) _) ⟨gs,j,none⟩ (.inl rfl) _
 have hne:∀g cs ty,At w g cs ty->ty≠126->g≠gs:=fun g cs ty ha hty e=>by
  subst e;have c:=h.slots;unfold At at ha c;rw[ha]at c;simp only [Zg,Obj.cells.injEq]at c;exact hty c.2.1
 have hkeep:∀(t:Nat) (x:Dev) (dvq d:Nat),DevAt w T t dvq d x->DevAt w' T t dvq d x:=fun t x dvq d hd=>hd.keep hc (fun k hk e=>by
  subst e
  have:=h.ts
  have:=hd.two
  rcases hk with hk|hk
  ·omega
  ·exact hne dvq _ _ hd.dev (by decide) hk.symm)
 refine⟨⟨h.bay.mod hc (hne b _ _ h.bay (by decide)),?_,h.tb,h.ts,fun q hq x hx=> ?_,fun q hq hx=> ?_,fun q l hq hl hql a c=> ?_,fun q l hq hl hql d hd hd2=> ?_,fun k hk=>h.virgin k (Zc hc.size hk),h.few,h.cl,h.trl,h.trh⟩,hc⟩
 ·rw[he]
  have h2:=(h.slots.set i (Zs (some ⟨dv,0,none⟩))).set j (.pointer none);have e:((slotCells ptr s.n).setIfInBounds i (Zs (some ⟨dv,0,none⟩))).setIfInBounds j (.pointer none)=slotCells (fun q=>if q=i then some dv else if q=j then none else ptr q) s.n:=by
   apply Array.ext_getElem?;intro m;have hs:(slotCells ptr s.n).size=3*s.n:=by simp[slotCells]
   rw[Array.getElem?_setIfInBounds,Array.getElem?_setIfInBounds,Array.size_setIfInBounds,hs];by_cases hm:m<3*s.n
   ·rw[Zbh _ _ _ hm,Zbh _ _ _ hm]
    by_cases hjm:j=m
    ·subst hjm;rw[Zf rfl,Zf hm,Ze (Ne.symm hij),Zf rfl];rfl
    ·rw[Ze hjm]
     by_cases him:i=m
     ·subst him;rw[Zf rfl,Zf hm,Zf rfl];rfl
     ·rw[Ze him,Ze (Ne.symm him),Ze (Ne.symm hjm)]
   ·have q1:∀f,(slotCells f s.n)[m]?=none:=fun f=>by rw[Array.getElem?_eq_none];simp[slotCells];omega
    rw[q1,q1,Ze (by omega),Ze (by omega)]
  rw[e]at h2;exact h2
 ·have hx':(if q=i then some y else if q=j then none else s.pos q)=some x:=hx
  by_cases hqi:q=i
  ·rw[Zf hqi]at hx'
   simp only [Zg]at hx';subst hx';obtain⟨dv2,e1,e2⟩:=h.some' j hj y hy;rw[hp]at e1;simp only [Zg]at e1;subst e1;exact⟨dv,Zf hqi,by simp only [Zf hqi];exact hkeep _ _ _ _ e2⟩
  ·rw[Ze hqi]at hx'
   by_cases hqj:q=j
   ·rw[Zf hqj]at hx';cases hx'
   ·rw[Ze hqj]at hx'
    obtain⟨dv2,e1,e2⟩:=h.some' q hq x hx';exact⟨dv2,by simp only [Ze hqi,Ze hqj];exact e1,by simp only [Ze hqi];exact hkeep _ _ _ _ e2⟩
 ·have hx':(if q=i then some y else if q=j then none else s.pos q)=none:=hx
  show(if q=i then some dv else if q=j then none else ptr q)=none
  by_cases hqi:q=i
  ·rw[Zf hqi]at hx';cases hx'
  ·rw[Ze hqi]at hx' ⊢
   by_cases hqj:q=j
   ·rw[Zf hqj]
   ·rw[Ze hqj]at hx' ⊢
    exact h.none' q hq hx'
 ·have a':(if q=i then some y else if q=j then none else s.pos q)≠none:=a
  have c':(if l=i then some y else if l=j then none else s.pos l)≠none:=c;show(if q=i then tg j else tg q)≠(if l=i then tg j else tg l)
  have hyj:s.pos j≠none:=by rw[hy];simp
  by_cases hqi:q=i
  ·have hli:l≠i:=by omega
   rw[Ze hli]at c';have hlj:l≠j:=fun e=>by rw[Zf e]at c';exact c' rfl
   rw[Ze hlj]at c';rw[Zf hqi,Ze hli];exact h.apart j l hj hl (Ne.symm hlj) hyj c'
  ·rw[Ze hqi]at a'
   have hqj:q≠j:=fun e=>by rw[Zf e]at a';exact a' rfl
   rw[Ze hqj]at a';rw[Ze hqi];by_cases hli:l=i
   ·rw[Zf hli]
    exact h.apart q j hq hj hqj a' hyj
   ·rw[Ze hli]at c' ⊢
    have hlj:l≠j:=fun e=>by rw[Zf e]at c';exact c' rfl
    rw[Ze hlj]at c';exact h.apart q l hq hl hql a' c'
 ·have hd':(if q=i then some dv else if q=j then none else ptr q)=some d:=hd
  have hd2':(if l=i then some dv else if l=j then none else ptr l)=some d:=hd2;by_cases hqi:q=i
  ·have hli:l≠i:=by omega
   rw[Zf hqi]at hd';rw[Ze hli]at hd2';have hlj:l≠j:=fun e=>by rw[Zf e]at hd2';cases hd2'
   rw[Ze hlj]at hd2';exact h.own j l hj hl (Ne.symm hlj) d (by rw[hp,<-hd']) hd2'
  ·rw[Ze hqi]at hd'
   have hqj:q≠j:=fun e=>by rw[Zf e]at hd';cases hd'
   rw[Ze hqj]at hd';by_cases hli:l=i
   ·rw[Zf hli]at hd2'
    exact h.own q j hq hj hqj d hd' (by rw[hp,<-hd2'])
   ·rw[Ze hli]at hd2'
    have hlj:l≠j:=fun e=>by rw[Zf e]at hd2';cases hd2'
    rw[Ze hlj]at hd2';exact h.own q l hq hl hql d hd' hd2'
def BaySt.smallIn(s:BaySt)(m:Nat):Prop:=∀k,k<s.n->∀x,s.pos (k*3)=some x->x.d.cache.length≤m
theorem BaySt.small.in{m:Nat}(h:s.small m):s.smallIn m:=fun k hk x hx=>h (k*3) (by omega) x hx
theorem crashAt_none(h:s.pos (k*3)=none):s.crashAt k l=s:=by
 unfold BaySt.crashAt;have e:(fun q=>if q=k*3 then (s.pos (k*3)).map (·.crash l)else s.pos q)=s.pos:=by
  funext q;by_cases hq:q=k*3
  ·subst hq;rw[Zf rfl,h];rfl
  ·rw[Ze hq]
 rw[e]
theorem crashAt_some(h:s.pos (k*3)=some x):s.crashAt k l={s with pos:=fun q=>if q=k*3 then some (x.crash l)else s.pos q}:=by
 unfold BaySt.crashAt;rw[h];rfl
theorem come_none(h:s.pos (k*3+2)=none):s.come k=s:=by
 unfold BaySt.come;rw[h]
theorem come_some(h:s.pos (k*3+2)=some y):s.come k={s with pos:=fun q=>if q=k*3 then some y else if q=k*3+2 then none else s.pos q}:=by
 unfold BaySt.come;rw[h]
def CutAt(w:World)(b:Nat)(T:Nat->Nat)(s':BaySt)(wr:World):Prop:=∃gs ptr tg dp,BayIn wr T b s' gs ptr tg dp/\Chg (fun q=>T q≠0) w wr
theorem bay_cut(h:BayAt w T b s)(v:Value)(ks:List (List Bool))(hv:Bitzz w T v ks)(hm:s.smallIn 1000000):
  Calls Zw 37 #[Zs (some ⟨b,0,none⟩),v] w fun e w'=>e=Zu (.tuple #[])/\BayAt w' T b (s.cut ks)/\Chg (fun q=>T q≠0) w w':=by
 obtain⟨gs0,ptr0,tg0,dp0,h⟩:=h;obtain⟨va,vc,rfl⟩:=hv.shape;have c0:w.cell? ⟨b,0,none⟩=some (Zt (some ⟨gs0,0,none⟩) s.n s.n):=h.bay.cell 0;have hfew:=h.few;have hkl:ks.length≤9223372036854775807:=by obtain⟨_,_,_,q,_⟩:=hv;exact q
 have HV:=hid hv;have HM:=hid hm;have HB0:=hid h;have htb:=hid h.tb;clear h hv hm;go_enter Tryz.func37,Tryz.ntmps37;go_wp2;go_loopw [12] (fun q wr=>∃k:Nat,k≤s.n/\q=O Z k/\CutAt w b T (s.cutTo ks k) wr) (fun q _=>s.n-(intOf q).toNat);case atStart=>exact⟨0,by omega,rfl,gs0,ptr0,tg0,dp0,HB0.out,Zl _ _⟩
 case round=>
  clear c0;obtain⟨k,hk,rfl,gs,ptr,tg,dp,hB,hch⟩:=hrel;have hn:(s.cutTo ks k).n=s.n:=cutTo_n s ks k;have c0:wr.cell? ⟨b,0,none⟩=some (Zt (some ⟨gs,0,none⟩) s.n s.n):=by rw[<-hn];exact hB.bay.cell 0
  have HN:=hid hn;have HB:=hid hB;have HC:=hid hch;have HVr:=hid (HV.out.keep hch (fun k h=>h));by_cases hkn:k<s.n
  ·have K1:Hid (k+1≤s.n):=hkn
   have K3:Hid (k*3+2<3*(s.cutTo ks k).n):=by show k*3+2<3*(s.cutTo ks k).n;rw[hn];omega
   have a0:wr.cell? ⟨gs,k*3,none⟩=some (pcell (ptr (k*3))):=(hB.slots.cell (k*3)).trans (Zbh _ _ _ (by rw[hn];omega));have a2:wr.cell? ⟨gs,k*3+2,none⟩=some (pcell (ptr (k*3+2))):=(hB.slots.cell (k*3+2)).trans (Zbh _ _ _ (by rw[hn];omega));have fs0:=hB.slots.free (k*3);have fs2:=hB.slots.free (k*3+2);clear hch hn;cases hx:(s.cutTo ks k).pos (k*3)with
   |none=>
    cases hy:(s.cutTo ks k).pos (k*3+2)with
    |none=>
     have P0:=hid hx;rw[hB.none' (k*3) (by have:=K3.out;omega) hx]at a0;clear hx;rw[hB.none' (k*3+2) K3.out hy]at a2;have P2:=hid hy;clear hB hy;unfold pcell at a0 a2;simp only [Option.map_none]at a0 a2;go_wp2;have HB3:BayIn wr T b ((s.cutTo ks k).crashAt k (ks.getD k [])) gs ptr tg dp:=by rw[crashAt_none P0.out];exact HB.out
     have HC3:=HC.out;have Q2:((s.cutTo ks k).crashAt k (ks.getD k [])).pos (k*3+2)=(s.cutTo ks k).pos (k*3+2):=Ze (by omega);rw[P2.out]at Q2;refine⟨⟨k+1,K1.out,by go_num,gs,ptr,tg,dp,?_,HC3⟩,by simp[intOf];omega⟩;show BayIn _ T b (((s.cutTo ks k).crashAt k (ks.getD k [])).come k) gs ptr tg dp
     rw[come_none Q2];exact HB3
    |some y=>
     have P0:=hid hx;rw[hB.none' (k*3) (by have:=K3.out;omega) hx]at a0;clear hx;obtain⟨dv2,e3,e4⟩:=hB.some' (k*3+2) K3.out y hy;rw[e3]at a2;have E3:=hid e3;clear e3 e4;have P2:=hid hy;clear hB hy;unfold pcell at a0 a2;simp only [Option.map_some,Option.map_none]at a0 a2;go_wp2;have HB3:BayIn wr T b ((s.cutTo ks k).crashAt k (ks.getD k [])) gs ptr tg dp:=by rw[crashAt_none P0.out];exact HB.out
     have HC3:=HC.out;have Q2:((s.cutTo ks k).crashAt k (ks.getD k [])).pos (k*3+2)=(s.cutTo ks k).pos (k*3+2):=Ze (by omega);rw[P2.out]at Q2;have hmv:=HB3.move (i:=k*3) (j:=k*3+2) (by have:=K3.out;show k*3<3*(s.cutTo ks k).n;omega) K3.out (by omega) Q2 E3.out rfl;rw[<-come_some Q2]at hmv;refine⟨⟨k+1,K1.out,by go_num,gs,_,_,_,hmv.1,HC3.trans (hmv.2.mono fun q hq=> ?_)⟩,by simp[intOf];omega⟩;subst hq;rw[HB3.ts];simp
   |some x=>
    by_cases hkk:k<ks.length
    ·cases hy:(s.cutTo ks k).pos (k*3+2)with
     |none=>
      have p0:(s.cutTo ks k).pos (k*3)=some x:=hx;obtain⟨dv,e1,e2⟩:=hB.some' (k*3) (by have:=K3.out;omega) x p0;have d0:wr.cell? ⟨dv,0,none⟩=some (Zs (some ⟨dp (k*3),0,none⟩)):=e2.dev.cell 0;rw[e1]at a0;have hsm:x.d.cache.length≤1000000:=HM.out k hkn x (by rw[<-cutTo_pos s ks k (k*3) (by omega)];exact p0);obtain⟨va',vc',q1,q2,q3⟩:=HVr.out;simp only [Zn,true_and]at q1;obtain⟨rfl,rfl⟩:=q1;rcases q3 with q3|⟨kb,ko,rfl,q4,q5,q6⟩
      ·rw[q3]at hkk;simp at hkk
      obtain⟨u,u1,u2⟩:=q6 k hkk;obtain⟨ua,uc,rfl⟩:=u2.shape;have eg:ks.getD k []=ks[k]:=by rw[Zi,Zh hkk];rfl
      have HCR:=hid (disk_crash T (tg (k*3)) (dp (k*3)) x.d _ ks[k] wr e2.disk e2.two hB.virgin hsm u2);clear q6;generalize ks[k].length=un at*;rw[<-eg]at HCR;clear u2 eg;have E2:=hid e2;have P0:=hid p0;have E1:=hid e1;clear hsm e2 p0 hx e1;rw[hB.none' (k*3+2) K3.out hy]at a2;have P2:=hid hy;clear hB hy;unfold pcell at a0 a2;simp only [Option.map_some,Option.map_none]at a0 a2;go_wp2_with (go_at_call 88;refine HCR.out.mono ?_;rintro e w2 ⟨rfl,r1,r2⟩;have HB2:=hid (HB.out.used (i:=k*3) (x:=x) (x':=x.crash (ks.getD k [])) (by have:=K3.out;omega) P0.out E1.out ⟨E2.out.dev.mod r2 (fun e=>by have:=E2.out.tag;have:=E2.out.two;omega),E2.out.tag,E2.out.two,r1,E2.out.lo,E2.out.hi⟩ (r2.mono fun q hq=>.inl hq));have b2:w2.cell? ⟨gs,k*3+2,none⟩=some (pcell (ptr (k*3+2))):=(HB2.out.1.slots.cell (k*3+2)).trans (Zbh _ _ _ K3.out);have b0:w2.cell? ⟨gs,k*3,none⟩=some (pcell (ptr (k*3))):=(HB2.out.1.slots.cell (k*3)).trans (Zbh _ _ _ (by have:=K3.out;show k*3<3*(s.cutTo ks k).n;omega));have g0:=HB2.out.1.slots.free (k*3);have g2:=HB2.out.1.slots.free (k*3+2);rw[E1.out]at b0;rw[HB.out.none' (k*3+2) K3.out P2.out]at b2;unfold pcell at b0 b2;simp only [Option.map_some,Option.map_none]at b0 b2);have HB3:BayIn w2 T b ((s.cutTo ks k).crashAt k (ks.getD k [])) gs ptr tg dp:=by rw[crashAt_some P0.out];exact HB2.out.1
      have HC3:=HC.out.trans HB2.out.2;have Q2:((s.cutTo ks k).crashAt k (ks.getD k [])).pos (k*3+2)=(s.cutTo ks k).pos (k*3+2):=Ze (by omega);rw[P2.out]at Q2;refine⟨⟨k+1,K1.out,by go_num,gs,ptr,tg,dp,?_,HC3⟩,by simp[intOf];omega⟩;show BayIn _ T b (((s.cutTo ks k).crashAt k (ks.getD k [])).come k) gs ptr tg dp
      rw[come_none Q2];exact HB3
     |some y=>
      have p0:(s.cutTo ks k).pos (k*3)=some x:=hx;obtain⟨dv,e1,e2⟩:=hB.some' (k*3) (by have:=K3.out;omega) x p0;have d0:wr.cell? ⟨dv,0,none⟩=some (Zs (some ⟨dp (k*3),0,none⟩)):=e2.dev.cell 0;rw[e1]at a0;have hsm:x.d.cache.length≤1000000:=HM.out k hkn x (by rw[<-cutTo_pos s ks k (k*3) (by omega)];exact p0);obtain⟨va',vc',q1,q2,q3⟩:=HVr.out;simp only [Zn,true_and]at q1;obtain⟨rfl,rfl⟩:=q1;rcases q3 with q3|⟨kb,ko,rfl,q4,q5,q6⟩
      ·rw[q3]at hkk;simp at hkk
      obtain⟨u,u1,u2⟩:=q6 k hkk;obtain⟨ua,uc,rfl⟩:=u2.shape;have eg:ks.getD k []=ks[k]:=by rw[Zi,Zh hkk];rfl
      have HCR:=hid (disk_crash T (tg (k*3)) (dp (k*3)) x.d _ ks[k] wr e2.disk e2.two hB.virgin hsm u2);clear q6;generalize ks[k].length=un at*;rw[<-eg]at HCR;clear u2 eg;have E2:=hid e2;have P0:=hid p0;have E1:=hid e1;clear hsm e2 p0 hx e1;obtain⟨dv2,e3,e4⟩:=hB.some' (k*3+2) K3.out y hy;rw[e3]at a2;have E3:=hid e3;clear e3 e4;have P2:=hid hy;clear hB hy;unfold pcell at a0 a2;simp only [Option.map_some]at a0 a2;go_wp2_with (go_at_call 88;refine HCR.out.mono ?_;rintro e w2 ⟨rfl,r1,r2⟩;have HB2:=hid (HB.out.used (i:=k*3) (x:=x) (x':=x.crash (ks.getD k [])) (by have:=K3.out;omega) P0.out E1.out ⟨E2.out.dev.mod r2 (fun e=>by have:=E2.out.tag;have:=E2.out.two;omega),E2.out.tag,E2.out.two,r1,E2.out.lo,E2.out.hi⟩ (r2.mono fun q hq=>.inl hq));have b2:w2.cell? ⟨gs,k*3+2,none⟩=some (pcell (ptr (k*3+2))):=(HB2.out.1.slots.cell (k*3+2)).trans (Zbh _ _ _ K3.out);have b0:w2.cell? ⟨gs,k*3,none⟩=some (pcell (ptr (k*3))):=(HB2.out.1.slots.cell (k*3)).trans (Zbh _ _ _ (by have:=K3.out;show k*3<3*(s.cutTo ks k).n;omega));have g0:=HB2.out.1.slots.free (k*3);have g2:=HB2.out.1.slots.free (k*3+2);rw[E1.out]at b0;rw[E3.out]at b2;unfold pcell at b0 b2;simp only [Option.map_some]at b0 b2);have HB3:BayIn w2 T b ((s.cutTo ks k).crashAt k (ks.getD k [])) gs ptr tg dp:=by rw[crashAt_some P0.out];exact HB2.out.1
      have HC3:=HC.out.trans HB2.out.2;have Q2:((s.cutTo ks k).crashAt k (ks.getD k [])).pos (k*3+2)=(s.cutTo ks k).pos (k*3+2):=Ze (by omega);rw[P2.out]at Q2;have hmv:=HB3.move (i:=k*3) (j:=k*3+2) (by have:=K3.out;show k*3<3*(s.cutTo ks k).n;omega) K3.out (by omega) Q2 E3.out rfl;rw[<-come_some Q2]at hmv;refine⟨⟨k+1,K1.out,by go_num,gs,_,_,_,hmv.1,HC3.trans (hmv.2.mono fun q hq=> ?_)⟩,by simp[intOf];omega⟩;subst hq;rw[HB3.ts];simp
    ·cases hy:(s.cutTo ks k).pos (k*3+2)with
     |none=>
      have p0:(s.cutTo ks k).pos (k*3)=some x:=hx;obtain⟨dv,e1,e2⟩:=hB.some' (k*3) (by have:=K3.out;omega) x p0;have d0:wr.cell? ⟨dv,0,none⟩=some (Zs (some ⟨dp (k*3),0,none⟩)):=e2.dev.cell 0;rw[e1]at a0;have hsm:x.d.cache.length≤1000000:=HM.out k hkn x (by rw[<-cutTo_pos s ks k (k*3) (by omega)];exact p0);have eg:ks.getD k []= []:=by rw[Zi,List.getElem?_eq_none (by omega)];rfl
      have HCR:=hid (disk_crash T (tg (k*3)) (dp (k*3)) x.d _ [] wr e2.disk e2.two hB.virgin hsm (Bitz.nil wr T));rw[<-eg]at HCR;clear eg;have E2:=hid e2;have P0:=hid p0;have E1:=hid e1;clear hsm e2 p0 hx e1;rw[hB.none' (k*3+2) K3.out hy]at a2;have P2:=hid hy;clear hB hy;unfold pcell at a0 a2;simp only [Option.map_some,Option.map_none]at a0 a2;go_wp2_with (go_at_call 88;refine HCR.out.mono ?_;rintro e w2 ⟨rfl,r1,r2⟩;have HB2:=hid (HB.out.used (i:=k*3) (x:=x) (x':=x.crash (ks.getD k [])) (by have:=K3.out;omega) P0.out E1.out ⟨E2.out.dev.mod r2 (fun e=>by have:=E2.out.tag;have:=E2.out.two;omega),E2.out.tag,E2.out.two,r1,E2.out.lo,E2.out.hi⟩ (r2.mono fun q hq=>.inl hq));have b2:w2.cell? ⟨gs,k*3+2,none⟩=some (pcell (ptr (k*3+2))):=(HB2.out.1.slots.cell (k*3+2)).trans (Zbh _ _ _ K3.out);have b0:w2.cell? ⟨gs,k*3,none⟩=some (pcell (ptr (k*3))):=(HB2.out.1.slots.cell (k*3)).trans (Zbh _ _ _ (by have:=K3.out;show k*3<3*(s.cutTo ks k).n;omega));have g0:=HB2.out.1.slots.free (k*3);have g2:=HB2.out.1.slots.free (k*3+2);rw[E1.out]at b0;rw[HB.out.none' (k*3+2) K3.out P2.out]at b2;unfold pcell at b0 b2;simp only [Option.map_some,Option.map_none]at b0 b2);have HB3:BayIn w2 T b ((s.cutTo ks k).crashAt k (ks.getD k [])) gs ptr tg dp:=by rw[crashAt_some P0.out];exact HB2.out.1
      have HC3:=HC.out.trans HB2.out.2;have Q2:((s.cutTo ks k).crashAt k (ks.getD k [])).pos (k*3+2)=(s.cutTo ks k).pos (k*3+2):=Ze (by omega);rw[P2.out]at Q2;refine⟨⟨k+1,K1.out,by go_num,gs,ptr,tg,dp,?_,HC3⟩,by simp[intOf];omega⟩;show BayIn _ T b (((s.cutTo ks k).crashAt k (ks.getD k [])).come k) gs ptr tg dp
      rw[come_none Q2];exact HB3
     |some y=>
      have p0:(s.cutTo ks k).pos (k*3)=some x:=hx;obtain⟨dv,e1,e2⟩:=hB.some' (k*3) (by have:=K3.out;omega) x p0;have d0:wr.cell? ⟨dv,0,none⟩=some (Zs (some ⟨dp (k*3),0,none⟩)):=e2.dev.cell 0;rw[e1]at a0;have hsm:x.d.cache.length≤1000000:=HM.out k hkn x (by rw[<-cutTo_pos s ks k (k*3) (by omega)];exact p0);have eg:ks.getD k []= []:=by rw[Zi,List.getElem?_eq_none (by omega)];rfl
      have HCR:=hid (disk_crash T (tg (k*3)) (dp (k*3)) x.d _ [] wr e2.disk e2.two hB.virgin hsm (Bitz.nil wr T));rw[<-eg]at HCR;clear eg;have E2:=hid e2;have P0:=hid p0;have E1:=hid e1;clear hsm e2 p0 hx e1;obtain⟨dv2,e3,e4⟩:=hB.some' (k*3+2) K3.out y hy;rw[e3]at a2;have E3:=hid e3;clear e3 e4;have P2:=hid hy;clear hB hy;unfold pcell at a0 a2;simp only [Option.map_some]at a0 a2;go_wp2_with (go_at_call 88;refine HCR.out.mono ?_;rintro e w2 ⟨rfl,r1,r2⟩;have HB2:=hid (HB.out.used (i:=k*3) (x:=x) (x':=x.crash (ks.getD k [])) (by have:=K3.out;omega) P0.out E1.out ⟨E2.out.dev.mod r2 (fun e=>by have:=E2.out.tag;have:=E2.out.two;omega),E2.out.tag,E2.out.two,r1,E2.out.lo,E2.out.hi⟩ (r2.mono fun q hq=>.inl hq));have b2:w2.cell? ⟨gs,k*3+2,none⟩=some (pcell (ptr (k*3+2))):=(HB2.out.1.slots.cell (k*3+2)).trans (Zbh _ _ _ K3.out);have b0:w2.cell? ⟨gs,k*3,none⟩=some (pcell (ptr (k*3))):=(HB2.out.1.slots.cell (k*3)).trans (Zbh _ _ _ (by have:=K3.out;show k*3<3*(s.cutTo ks k).n;omega));have g0:=HB2.out.1.slots.free (k*3);have g2:=HB2.out.1.slots.free (k*3+2);rw[E1.out]at b0;rw[E3.out]at b2;unfold pcell at b0 b2;simp only [Option.map_some]at b0 b2);have HB3:BayIn w2 T b ((s.cutTo ks k).crashAt k (ks.getD k [])) gs ptr tg dp:=by rw[crashAt_some P0.out];exact HB2.out.1
      have HC3:=HC.out.trans HB2.out.2;have Q2:((s.cutTo ks k).crashAt k (ks.getD k [])).pos (k*3+2)=(s.cutTo ks k).pos (k*3+2):=Ze (by omega);rw[P2.out]at Q2;have hmv:=HB3.move (i:=k*3) (j:=k*3+2) (by have:=K3.out;show k*3<3*(s.cutTo ks k).n;omega) K3.out (by omega) Q2 E3.out rfl;rw[<-come_some Q2]at hmv;refine⟨⟨k+1,K1.out,by go_num,gs,_,_,_,hmv.1,HC3.trans (hmv.2.mono fun q hq=> ?_)⟩,by simp[intOf];omega⟩;subst hq;rw[HB3.ts];simp
  ·obtain rfl:k=s.n:=by omega
   have f1:=hB.bay.free 1;have f2:=hB.bay.free 2;have c1:wr.cell? ⟨b,1,none⟩=some (.bool (s.cutTo ks s.n).dark):=hB.bay.cell 1;have c2:wr.cell? ⟨b,2,none⟩=some (O Z (s.cutTo ks s.n).trip):=hB.bay.cell 2;clear hB hn;go_wp2;go_end0;have hset:Chg (fun k=>k=b) wr ((wr.setCell ⟨b,1,none⟩ (.bool false)).setCell ⟨b,2,none⟩ (O Z (-1))):=Zk (S:=fun k=>k=b) (Zk (S:=fun k=>k=b) (Zl _ _) ⟨b,1,none⟩ (.inl rfl) _) ⟨b,2,none⟩ (.inl rfl) _;refine⟨rfl,⟨gs,ptr,tg,dp,HB.out.cells' hset false (-1) (s.cutTo ks s.n).cnt ((HB.out.bay.set 1 (.bool false)).set 2 (O Z (-1))) HB.out.cl (by omega) (by omega)⟩,HC.out.trans (hset.mono fun q hq=> ?_)⟩;subst hq;rw[htb.out];simp
theorem Zyg(u v:Value)(l m:List UInt8)(w:World)(hl:l.length≤9223372036854775807)(hm:m.length≤9223372036854775807)(hu:Seg w u l)(hv:Seg w v m):
  Calls Zw 28 #[u,v] w fun e w'=>e=Zu (.bool (decide (l=m)))/\Below w.heap.size w w':=by
 obtain⟨a,c,rfl⟩:=hu.shape;obtain⟨b,d,rfl⟩:=hv.shape;by_cases hlen:l.length=m.length
 ·have hne:((l.length:Int) !=(m.length:Int))=false:=by simp;omega
  go_enter Tryz.func28,Tryz.ntmps28;go_wp2_with fail;go_loopw [5] (fun i wr=>∃k:Nat,k≤l.length/\i=O Z k/\l.take k=m.take k/\Below w.heap.size w wr) (fun i _=>l.length-(intOf i).toNat);case atStart=>exact⟨0,Nat.zero_le _,rfl,rfl,Zb _ _⟩
  case round=>
   obtain⟨k,hk,rfl,htake,hbw⟩:=hrel;have Hlen:=hid hlen;have Htake:=hid htake;clear htake hlen;by_cases hlt:k<l.length
   ·have hlt':k<m.length:=by have:=Hlen.out;omega
    obtain⟨b1,o1,c1,e1,hb1,h1⟩:=Seg.full (hu.below hbw) (by omega);obtain⟨b2,o2,c2,e2,hb2,h2⟩:=Seg.full (hv.below hbw) (by omega);simp only [Zn]at e1 e2;obtain⟨rfl,_,rfl⟩:=e1;obtain⟨rfl,_,rfl⟩:=e2;have c1:=h1 k hlt;have c2:=h2 k hlt';have hx:=Zyn l[k] m[k];clear h1 h2 hu hv;by_cases heq:l[k]=m[k]
    ·rw[decide_eq_true heq]at hx
     have Hn:=hid (Zxm Htake.out hlt hlt' heq);generalize l[k]=x at*;generalize m[k]=y at*;clear heq;go_wp2;go_quiet (fail);go_wp2;go_roundw;case rel=>exact⟨k+1,by omega,by go_num,Hn.out,below_drewN hbw _⟩
     case measure=>simp[intOf];omega
    ·rw[decide_eq_false heq]at hx
     have Hn:=hid (show decide (l=m)=false from decide_eq_false fun e=>heq (by subst e;rfl));generalize l[k]=x at*;generalize m[k]=y at*;clear heq;go_wp2;go_quiet (fail);go_wp2;go_ret;exact⟨by rw[Hn.out];rfl,below_drewN hbw _⟩
   ·have Hn:=hid (show decide (l=m)=true from decide_eq_true (by
     have h:=Htake.out
     rw[List.take_of_length_le (by omega),List.take_of_length_le (by have:=Hlen.out;omega)]at h
     exact h))
    clear hu hv
    go_wp2
    go_ret
    exact⟨by rw[Hn.out];rfl,hbw⟩
 ·have hne:((l.length:Int) !=(m.length:Int))=true:=by simp;omega
  have Hn:=hid (show decide (l=m)=false from decide_eq_false fun e=>hlen (by rw[e]));clear hlen hu hv;go_enter Tryz.func28,Tryz.ntmps28;go_wp2;go_ret;exact⟨by rw[Hn.out];rfl,Zb _ _⟩
theorem Zya(h:RwIn w T A R lg vw X)(hs:Sound R V)(b:Nat)(hb:b<R.S*R.C*(R.M-1))(hcnt:R.s.cnt 0≤999998000000)(hsm:R.s.small 1000000):
  Calls Zw 84 #[Zs (some ⟨A.q,0,none⟩),O Z b] w (SecPost w T A R lg vw X (V (membOf R.M R.C b) (rowOf R.M R.C b)) (R.rc (membOf R.M R.C b) (rowOf R.M R.C b))):=by
 have hb0:Below w.heap.size w (w.alloc (Zv #[O Z 0,.int .u16 0] 33)):=(Zb _ _).alloc (Za _) _;have htb:T w.heap.size=0:=Zae h.bay _ (Za _);have h0:=h.below hb0;have HTB:Hid (At (w.alloc (Zv #[O Z 0,.int .u16 0] 33)) w.heap.size #[O Z 0,.int .u16 0] 33):=At.new _ _ _;have L:=lies hs.geo hb;have HOF:Hid (Calls Zw 94 #[.agg #[O Z R.M,O Z R.C,O Z R.S],O Z b] (w.alloc (Zv #[O Z 0,.int .u16 0] 33)) fun e w'=>(∃t p:Int,e=Zu (.tuple #[placeVal t (rowOf R.M R.C b:Nat) (membOf R.M R.C b:Nat) p,.int .u16 0]))/\Below (w.alloc (Zv #[O Z 0,.int .u16 0] 33)).heap.size (w.alloc (Zv #[O Z 0,.int .u16 0] 33)) w'):=Zpr R.M R.C R.S b _ hs.geo hb;have HSE:Hid (∀W,Below (w.alloc (Zv #[O Z 0,.int .u16 0] 33)).heap.size (w.alloc (Zv #[O Z 0,.int .u16 0] 33)) W->Calls Zw 107 #[Zs (some ⟨A.q,0,none⟩),O Z (membOf R.M R.C b:Nat),O Z (rowOf R.M R.C b:Nat)] W (SecPost W T A R lg vw X (V (membOf R.M R.C b) (rowOf R.M R.C b)) (R.rc (membOf R.M R.C b) (rowOf R.M R.C b)))):=fun W hW=>Zid (h0.below hW) hs _ _ L.memb L.row hcnt hsm
 have q1:(w.alloc (Zv #[O Z 0,.int .u16 0] 33)).cell? ⟨A.q,1,none⟩=some (O Z R.M):=h0.rw.cell 1;have q2:(w.alloc (Zv #[O Z 0,.int .u16 0] 33)).cell? ⟨A.q,2,none⟩=some (O Z R.C):=h0.rw.cell 2;have q3:(w.alloc (Zv #[O Z 0,.int .u16 0] 33)).cell? ⟨A.q,3,none⟩=some (O Z R.S):=h0.rw.cell 3;have H:=hid h;have HBW:=hid hb0;have hqlt:=h.rw.lt;clear h hs hb0 h0 L hb;generalize hmb:membOf R.M R.C b=mb at*;generalize hrb:rowOf R.M R.C b=rb at*;generalize R.rc mb rb=cn at*;go_enter Tryz.func84,Tryz.ntmps84
 go_wp2_with (first
  |(go_at_call 94;(with_reducible refine HOF.out.mono ?_);rintro e w2 ⟨⟨t2,p2,rfl⟩,hb2⟩;have HB2:=hid hb2;have hb3:Below (w.alloc (Zv #[O Z 0,.int .u16 0] 33)).heap.size (w.alloc (Zv #[O Z 0,.int .u16 0] 33)) (w2.alloc (Zv #[O Z t2,O Z (rb:Nat),O Z (mb:Nat),O Z p2] 178)):=hb2.alloc hb2.size _;have HB3:=hid hb3;unfold placeVal;clear hb2 hb3)
  |(go_at_call 107;(with_reducible refine(HSE.out _ HB3.out).mono ?_);rintro e w6 ⟨v5,rfl,ho5,hr6,hc6⟩;have HO5:=hid (Zan ho5 (Zc HBW.out.size HB3.out.size));have HR6:=hid hr6;have HC6:Hid (Chg (fun k=>T k≠0) (w.alloc (Zv #[O Z 0,.int .u16 0] 33)) w6):=Zaj (Zm HB3.out _) hc6 (fun q _ hq=>hq);obtain⟨a5,c5,rfl⟩:=Zab ho5;have htb6:=HTB.out.mod HC6.out (fun e=>e htb);have k0:w6.cell? ⟨w.heap.size,0,none⟩=some (O Z 0):=htb6.cell 0;have k1:w6.cell? ⟨w.heap.size,1,none⟩=some (.int .u16 0):=htb6.cell 1;have f0:=htb6.free 0;have f1:=htb6.free 1;have HT6:=hid htb6;clear hr6 hc6 htb6 ho5))
 have hst:Chg (fun k=>k=w.heap.size) w6 ((w6.setCell ⟨w.heap.size,0,none⟩ (O Z 0)).setCell ⟨w.heap.size,1,none⟩ (.int .u16 0)):=Zk (S:=fun k=>k=w.heap.size) (Zk (S:=fun k=>k=w.heap.size) (Zl _ _) ⟨w.heap.size,0,none⟩ (.inl rfl) _) ⟨w.heap.size,1,none⟩ (.inl rfl) _;have hF:=(HT6.out.set 0 (O Z 0)).set 1 (.int .u16 0);have r0:=hF.cell 0;have r1:=hF.cell 1;have hc6:Chg (fun k=>T k≠0) w w6:=(Zaj (Zm HBW.out _) HC6.out (fun q _ hq=>hq));have hcF:Chg (fun k=>T k≠0) w ((w6.setCell ⟨w.heap.size,0,none⟩ (O Z 0)).setCell ⟨w.heap.size,1,none⟩ (.int .u16 0)):=Zaj hc6 hst (fun q hq e=>by omega);have HEND:Hid (SecPost w T A R lg vw X (V mb rb) cn (Zu (.tuple #[Zt a5 128 c5,.agg #[O Z 0,.int .u16 0]])) ((w6.setCell ⟨w.heap.size,0,none⟩ (O Z 0)).setCell ⟨w.heap.size,1,none⟩ (.int .u16 0))):=by
  refine⟨_,rfl,Zad HO5.out hst (fun q hq e=>Za4 HO5.out HT6.out (by decide) (by rw[hq,e])),H.out.turn (T':=T) (HR6.out.bay.keep hst (fun k hk e=>hk (by rw[e];exact htb))) (fun _ _=>rfl) hcF,hcF⟩
 clear hst hF hc6 hcF HT6 HO5 HR6 HC6;(try simp only [Exit.inBlock,Exit.then]);refine bodyPost_ret (v:=.tuple #[Zt a5 128 c5,.agg #[O Z 0,.int .u16 0]]) ?_ rfl HEND.out;rw[Zbw rfl];go_simp;try rfl
section
section
variable {w0 W w':World} {T T':Nat->Nat} {A:Adr} {R R':RS} {V:Nat->Nat->Sec} {a b:Nat}
theorem Stp.ofBay(hc:Chg (fun q=>T q≠0) W w'):Stp W T A w' T:=⟨fun _ _=>rfl,hc.mono fun q e=>.inl e⟩
theorem Bud.placed(h:Bud R a b){e1 e2:Nat}(hc:Cost R R' k (R.wait.length+e1) e2 (R.wait.length+e1) 0)(hg:R.wait.length≤512)(hw:R'.wait= []):Bud R' (a+k+512+e1+e2) (b+e1):=by
 obtain⟨h0,h1,h2,h3,m,h4,h5⟩:=h;obtain⟨k1,k2,k3,k4,k5,-⟩:=hc;exact⟨by omega,by omega,by omega,by omega,_,k4 m h4,by rw[hw];simp;omega⟩
theorem Bud.ticks(h:Bud R a b)(c:Nat):Bud {R with s:=R.s.ticks 0 c} (a+c) b:=by
 obtain⟨h0,h1,h2,h3,m,h4,h5⟩:=h;refine⟨?_,?_,?_,by show R.next≤_;omega,m,h4,h5⟩
 ·show(R.s.ticks 0 c).cnt 0≤_
  rw[Zb7];omega
 ·show(R.s.ticks 0 c).cnt 1≤_
  rw[Zbo _ _ _ _ (by decide)];omega
 ·show(R.s.ticks 0 c).cnt 2≤_
  rw[Zbo _ _ _ _ (by decide)];omega
end
theorem Zyf(h:LAt w0 W T A R V)(hb:Bud R a b)(hin:Within a b):
  Calls Zw 29 #[Zs (some ⟨A.q,0,none⟩)] W fun e w'=>e=Zu (.agg #[O Z 0,.int .u16 0])/\∃T' R',LAt w0 w' T' A R' V/\Stp W T A w' T'/\Bud R' (a+1000) b/\Same R R'/\R'.wait= []/\R'.sure=true/\(R.wait= []->R.sure=true->R'.s.cnt 0=R.s.cnt 0/\R'.s.cnt 1=R.s.cnt 1/\R'.s.cnt 2=R.s.cnt 2):=by
 obtain⟨lg,vw,X,hr⟩:=h.rw;have h1:=hin.a;have h2:=hin.b;have h31:=hb.c1;have h32:=hb.c2;refine(Zhy hr h.good.ready (by omega) (by omega) (hb.small' (by omega))).mono ?_;rintro e w' ⟨rfl,R',vw',X',hpl,T',k1,k2,k3⟩;have hst:Stp W T A w' T':=⟨k2,k3⟩;obtain⟨k4,k5⟩:=h.next hst;obtain⟨g',hw'⟩:=h.good.synced.placed hpl;have c1:=h.good.cost_synced.trans (h.good.synced.cost_placed hpl);rw[Good.synced_wait]at c1;obtain⟨-,f0,f1,f2,-,s',e'⟩:=hpl.facts h.good.synced.ready;refine⟨rfl,T',R',⟨⟨lg,vw',X',k1⟩,g',.inr hw',k4,k5⟩,hst,(hb.placed (k:=0) (e1:=0) (e2:=1) (c1.mono (by omega) (by omega) (by omega) (by omega) (by omega)) h.good.few hw').mono (by omega) (by omega),c1.same (Zgf h.good hpl),hw',by rw[e'];exact R.synced_sure,fun hw hsu=> ?_⟩;have e1:R.synced=R:=by unfold RS.synced;rw[Zf hsu]
 rw[e1]at f0 f1 f2 hpl;obtain⟨s2,e2,L,hnd,hmem,hld⟩:=hpl.eq;have hL:L= []:=by
  rw[List.eq_nil_iff_forall_not_mem];intro k hk;obtain⟨p,hp,-⟩:=(hmem k).1 hk;rw[hw]at hp;cases hp
 refine⟨f0,?_,f2⟩;have:=hld.c1;rw[hL]at this;rw[e2];show s2.cnt 1=_
 rw[this];simp
theorem l_empty(h:LAt w0 W T A R V)(hb:Bud R a b)(hin:Within a b):
  Calls Zw 23 #[Zs (some ⟨A.q,0,none⟩)] W fun e w'=>e=Zu (.agg #[O Z 0,.int .u16 0])/\∃T' R',LAt w0 w' T' A R' V/\Stp W T A w' T'/\Bud R' (a+1000) (b+1)/\Same R R'/\R'.wait= []/\R'.used=0/\EmptyR R R':=by
 obtain⟨lg,vw,X,hr⟩:=h.rw;have h1:=hin.a;have h2:=hin.b;have h31:=hb.c1;have h32:=hb.c2;refine(Zpk hr h.good.ready h.good.jrn (by omega) (by omega) (hb.small' (by omega))).mono ?_;rintro e w' ⟨rfl,R',vw',X',he,T',k1,k2,k3⟩;have hst:Stp W T A w' T':=⟨k2,k3⟩;obtain⟨k4,k5⟩:=h.next hst;obtain⟨g',hw',hu',-⟩:=h.good.empty he;have c1:=h.good.cost_empty he;exact⟨rfl,T',R',⟨⟨_,vw',X',k1⟩,g',.inr hw',k4,k5⟩,hst,(hb.placed (k:=0) (e1:=1) (e2:=20) c1 h.good.few hw').mono (by omega) (by omega),c1.same (Zp3 h.good he),hw',hu',he⟩
end
def flatD(D:Nat->Sec)(n:Nat):List UInt8:=(List.range n).flatMap D
theorem Zx3(D:Nat->Sec)(n:Nat):flatD D (n+1)=flatD D n++D n:=by
 unfold flatD;rw[List.range_succ,List.flatMap_append];simp
theorem Zxj{D:Nat->Sec}:∀{n:Nat},(∀k,k<n->(D k).length=128)->(flatD D n).length=128*n
 |0,_=>rfl
 |n+1,h=>by
  rw[Zx3,Zo,Zxj (fun k hk=>h k (by omega)),h n (by omega)];omega
theorem Zxw(h:Good R V)(hk:k<R.S*R.C*(R.M-1)):(blkOf R.M R.C V k).length=128:=by
 have hl:=lies h.geo hk;exact h.len _ _ hl.memb hl.row
def RS.blocks(R:RS):Nat:=R.S*R.C*(R.M-1)
theorem Zx4(hg:geoIs R.M R.C R.S=true):(R.S:Int)*R.C*((R.M:Int)-1)=((R.blocks:Nat):Int):=by
 have:=(Zbe hg).1;unfold RS.blocks;rw[Int.natCast_mul,Int.natCast_mul,Int.natCast_sub (by omega)];rfl
theorem Zxp(hg:geoIs R.M R.C R.S=true):R.blocks≤61440:=by
 obtain⟨h1,h2,h3,h4⟩:=Zbe hg;exact Nat.mul_le_mul h4 (by omega:R.M-1≤15)
structure RdAt (W wr:World) (T:Nat->Nat) (A:Adr) (R:RS) (lg:Option Nat) (vw:Value) (X:List OP) (D:Nat->Sec) (k:Nat) (v:Value):Prop where
 rw:∃c,c≤17*k/\RwIn wr T A {R with s:=R.s.ticks 0 c} lg vw X
 box:At wr W.heap.size #[O Z R.M,O Z R.C,O Z R.S] 23
 own:wr.ownsRow W.heap.size 5 1 v (128*k) (ucells (flatD D k))
 chg:Chg (fun q=>T q≠0) W wr
theorem RdAt.below{wr wy:World}{D:Nat->Sec}(h:RdAt W wr T A R lg vw X D k v)(hb:Below wr.heap.size wr wy):RdAt W wy T A R lg vw X D k v:=by
 obtain⟨⟨c,h1,h2⟩,h3,h4,h5⟩:=h;exact⟨⟨c,h1,h2.below hb⟩,h3.below hb h3.lt,Zad h4 (Zm hb (fun _=>False)) (fun _ _ e=>e),h5.trans (Zm hb _)⟩
section
open Go.RowKit Go.ChangeShapes Go.WideShapes Go.ChangeAt Go.Deep
theorem Zxo{B:Nat}{l:List UInt8}(h:w.ownsRow B 5 1 v n (ucells l)):Seg w v l:=by
 have hl:l.length=n:=by
  have:=h.1;rw[Zag]at this;omega
 subst hl;exact Zao (base:=B) h
theorem Zyk{l:List UInt8}(hl:l.length≤9223372036854775807)(hu:Seg w u l)(hv:Seg w v l):
  Calls Zw 28 #[u,v] w fun e w'=>e=Zu (.bool true)/\Below w.heap.size w w':=
 (Zyg u v l l w hl hl hu hv).mono fun e w' ⟨x1,x2⟩=>⟨by rw[x1];simp,x2⟩
def allOf(R:RS)(V:Nat->Nat->Sec):List UInt8:=flatD (blkOf R.M R.C V) R.blocks
theorem Zxl(h:Good R V):(allOf R V).length=128*R.blocks:=Zxj (fun k hk=>Zxw h hk)
theorem Zx6(h:Good R V):(allOf R V).length≤7864320:=by
 rw[Zxl h];have:=Zxp h.geo;omega
end
def Clean(R:RS):Prop:=∀m,m<R.M->R.dn m 0=false->∃x,R.s.pos (m*3)=some x/\x.d.cache= []/\CalmDev x (1+R.S*R.C)
theorem Good.clean{R':RS}(h:Good R V)(he:EmptyR R R'):Clean R':=by
 obtain⟨R2,hp,rfl⟩:=he;obtain⟨h2,hw⟩:=h.synced.placed hp;have hd:=Zel h2.geo h2.n h2.fit R2.M (Za _);have h3:=h2.dries;have hr:=Zd5 h3.n h3.fit;intro m hm hdn;have hm:m<R2.M:=hm;have hdn:R2.dn m 0=false:=hdn;obtain⟨x,k1,k2⟩:=hd.dry m hm hdn;obtain⟨y,e1,e2⟩:=hd.fit.dev m (by rw[hd.n,h2.n];omega) (RS.G_up h2.geo hm hdn);have hxy:y=x:=Option.some.inj (e1.symm.trans k1);subst hxy;refine⟨y,(hr.pos (m*3) (fun e=>by have:m*3=R2.M*3:=e;omega)).trans k1,k2,?_⟩;unfold RS.szs at e2;rw[Zf hm]at e2;exact e2
theorem Zx8(h:LAt w0 W T A R V)(hb:Bud R a b)(hin:Within (a+2000000) b):
  Calls Zw 32 #[Zs (some ⟨A.q,0,none⟩),geo R.M R.C R.S] W fun e w'=>∃v c,e=Zu (.tuple #[v,.bool true])/\w'.ownsRow W.heap.size 5 1 v (128*R.blocks) (ucells (flatD (blkOf R.M R.C V) R.blocks))/\LAt w0 w' T A {R with s:=R.s.ticks 0 c} V/\Chg (fun q=>T q≠0) W w'/\c≤1044480:=by
 obtain⟨lg,vw,X,hr⟩:=h.rw;have hg:=h.good.geo;have hbl:=Zx4 hg;have hbf:=Zxp hg;have hlow:=hr.low;have hM:=(Zbe hg).2.1;have hb0:Below W.heap.size W (W.alloc (Zv #[O Z R.M,O Z R.C,O Z R.S] 23)):=(Zb _ _).alloc (Za _) _;have HB:Hid (∀w,Calls Zw 39 #[.agg #[O Z R.M,O Z R.C,O Z R.S]] w fun e w'=>e=Zu (O Z (R.blocks:Nat))/\Below w.heap.size w w'):=fun w=>by
  have:=Zpb R.M R.C R.S w hg;rw[hbl]at this;exact this
 have HV:Hid (∀q,W.heap.size≤q->T q=0):=fun q hq=>Zae hr.bay q hq
 have HRD:Hid (∀k w v,k<R.blocks->RdAt W w T A R lg vw X (blkOf R.M R.C V) k v->Calls Zw 84 #[Zs (some ⟨A.q,0,none⟩),O Z k] w fun e w'=>∃x xc,e=Zu (.tuple #[Zt (some ⟨x,0,none⟩) 128 xc,.agg #[O Z 0,.int .u16 0]])/\w'.ownsRow w.heap.size 5 1 (Zt (some ⟨x,0,none⟩) 128 xc) 128 (ucells (blkOf R.M R.C V k))/\(∃c,c≤17*(k+1)/\RwIn w' T A {R with s:=R.s.ticks 0 c} lg vw X)/\At w' W.heap.size #[O Z R.M,O Z R.C,O Z R.S] 23/\w'.ownsRow W.heap.size 5 1 v (128*k) (ucells (flatD (blkOf R.M R.C V) k))/\Chg (fun q=>T q≠0) W w'):=fun k w v hk hd=>by
  obtain⟨⟨c,hc,hrw⟩,hbx,hown,hchg⟩:=hd;have h1:=hin.a;have h2:=hin.b;have h3:=hb.c0;have hcn:(R.s.ticks 0 c).cnt 0≤999998000000:=by rw[Zb7];omega
  refine(Zya (R:={R with s:=R.s.ticks 0 c}) hrw (h.good.ticks c).sound k hk hcn (hb.small' (by omega))).mono ?_;rintro e w' ⟨v',rfl,k1,k2,k3⟩;obtain⟨x,xc,rfl,-,-⟩:=Zas k1 (by omega);refine⟨x,xc,rfl,k1,⟨c+RS.rc {R with s:=R.s.ticks 0 c} (membOf R.M R.C k) (rowOf R.M R.C k),?_,?_⟩,hbx.mod k3 (fun e=>e (HV.out _ (Za _))),Zad hown k3 (fun g hg e=>e (HV.out g (hown.lt g hg).1)),hchg.trans k3⟩
  ·have:=RS.rc_le {R with s:=R.s.ticks 0 c} (membOf R.M R.C k) (rowOf R.M R.C k)
   have e:({R with s:=R.s.ticks 0 c}:RS).M=R.M:=rfl;omega
  ·rw[<-Zeu]
   exact k2
 have HLN:Hid (∀k,k<R.blocks->(blkOf R.M R.C V k).length=128):=fun k hk=>Zxw h.good hk
 have HFL:Hid (∀k,k≤R.blocks->(flatD (blkOf R.M R.C V) k).length=128*k):=fun k hk=>Zxj (fun j hj=>Zxw h.good (show j<R.blocks by omega))
 have HI:Hid (RdAt W (W.alloc (Zv #[O Z R.M,O Z R.C,O Z R.S] 23)) T A R lg vw X (blkOf R.M R.C V) 0 (Zt none 0 0)):=⟨⟨0,by omega,by rw[Zei];exact hr.below hb0⟩,At.new _ _ _,World.ownsRow_nil _ _ _ _,Zm hb0 _⟩;have HFIN:Hid (∀w' v,RdAt W w' T A R lg vw X (blkOf R.M R.C V) R.blocks v->∃c,w'.ownsRow W.heap.size 5 1 v (128*R.blocks) (ucells (flatD (blkOf R.M R.C V) R.blocks))/\LAt w0 w' T A {R with s:=R.s.ticks 0 c} V/\Chg (fun q=>T q≠0) W w'/\c≤1044480):=fun w' v hd=>by
  obtain⟨⟨c,hc,hrw⟩,hbx,hown,hchg⟩:=hd;obtain⟨k4,k5⟩:=h.next (Stp.ofBay (A:=A) hchg);exact⟨c,hown,⟨⟨lg,vw,X,hrw⟩,h.good.ticks c,h.idle,k4,k5⟩,hchg,by omega⟩
 clear hr h hb hin hg hbl hb0 hM;generalize blkOf R.M R.C V=D at*;generalize R.blocks=B at*;unfold geo;go_enter Tryz.func32,Tryz.ntmps32;go_wp2;go_loopw [6,7] (fun v q wr=>∃k:Nat,k≤B/\q=O Z k/\RdAt W wr T A R lg vw X D k v) (fun _ q _=>B-(intOf q).toNat);case atStart=>exact⟨0,by omega,rfl,HI.out⟩
 case round=>
  obtain⟨k,hk,rfl,hrd⟩:=hrel;have c0:=hrd.box.cell 0;have c1:=hrd.box.cell 1;have c2:=hrd.box.cell 2;have hzl:=hrd.box.lt;have HR:=hid hrd;clear hrd;by_cases hkB:k<B
  ·have K1:Hid (k+1≤B):=hkB
   go_wp2_with (first
    |(go_at_call 39;(with_reducible refine(HB.out _).mono ?_);rintro e w2 ⟨rfl,hb2⟩;have HR2:=hid (HR.out.below hb2);clear hb2)
    |(go_at_call 84;(with_reducible refine(HRD.out k w2 _ hkB HR2.out).mono ?_);rintro e w3 ⟨x,xc,rfl,hx,hrw3,hbx3,hown3,hchg3⟩;have HX3:=hid hx;have HRW3:=hid hrw3;have HBX3:=hid hbx3;have HOW3:=hid hown3;have HCH3:=hid hchg3;have hN:=At.new w3 #[O Z 0,.int .u16 0] 33;have m0:=hN.cell 0;have m1:=hN.cell 1;clear hx hrw3 hbx3 hown3 hchg3 hN)
    |(refine Zbb rfl _ _ 51 5 1 1 rfl Zat W.heap.size u6 (128*k) _ rfl (World.ownsRow.alloc HOW3.out _) (some ⟨x,0,none⟩) 128 xc (ucells (D k)) rfl (by rw[Zag,HLN.out k hkB]) (fun e=>by cases e) (fun ad e=>by simp only [Zg]at e;subst e;exact(World.ownsRow.alloc HX3.out _).cells rfl) (Za8 _) (by unfold maxLen;omega) (by omega) (Zc HCH3.out.size (by rw[Zaa];omega)) ?_;intro v' w5 hown5 hb5 hg5;have HO5:=hid hown5;have HG5:=hid hg5;clear hown5 hb5 hg5))
   have hc5:Chg (fun q=>u6.ownBlock=some q) (w3.alloc (Zv #[O Z 0,.int .u16 0] 33)) w5:=Chg.ofGrown HG5.out (fun q hq=>.inl hq);have hal:Below w3.heap.size w3 (w3.alloc (Zv #[O Z 0,.int .u16 0] 33)):=(Zb _ _).alloc (Za _) _;obtain⟨c,hc,hrw⟩:=HRW3.out;refine⟨⟨k+1,K1.out,by go_num,⟨⟨c,hc,(hrw.below hal).apart hlow hc5 (fun q hq=>⟨HV.out q (HOW3.out.lt q hq).1,(HOW3.out.lt q hq).1⟩)⟩,(HBX3.out.alloc _).mod hc5 (Zah HOW3.out HBX3.out (by decide)),?_,Zaj (HCH3.out.trans (Zm hal _)) hc5 (fun q hq e=>by have:=(HOW3.out.lt q e).1;omega)⟩⟩,by simp[intOf];omega⟩;rw[Zx3,show 128*(k+1)=128*k+128 by omega,show ucells (flatD D k++D k)=ucells (flatD D k)++ucells (D k) by simp[ucells]];exact HO5.out
  ·obtain rfl:k=B:=by omega
   go_wp2_with (first
    |(go_at_call 39;(with_reducible refine(HB.out _).mono ?_);rintro e w2 ⟨rfl,hb2⟩;have HR2:=hid (HR.out.below hb2);clear hb2))
   go_ret2;obtain⟨c,g1,g2,g3,g4⟩:=HFIN.out _ _ HR2.out;exact⟨_,c,rfl,g1,g2,g3,g4⟩
abbrev gBox(g M C S:Nat):Nat×Array Value×TypeId:=(g,#[O Z M,O Z C,O Z S],23)
theorem Zwe{pp cp sp g:Nat}(h:LAt w0 W T A R V)(k2:At W pp (pairCells A cp sp) 39)(k3:T pp=0)(hg:At w0 g #[O Z M,O Z C,O Z S] 23):Hb w0 W T A R [pairBox pp A cp sp,gBox g M C S]:=by
 refine⟨h.hn,fun x hx=> ?_⟩;rcases List.mem_cons.1 hx with e|e
 ·subst e
  exact⟨k2,k3,(by decide:(101:TypeId)≠39),(by decide:(3:TypeId)≠39),(by decide:(133:TypeId)≠39),(by decide:(203:TypeId)≠39)⟩
 ·rcases List.mem_cons.1 e with e|e
  ·subst e
   exact⟨hg.below h.bel hg.lt,(h.old _ hg.lt).1,(by decide:(101:TypeId)≠23),(by decide:(3:TypeId)≠23),(by decide:(133:TypeId)≠23),(by decide:(203:TypeId)≠23)⟩
  ·cases e
section
structure OwnT (W:World) (T:Nat->Nat) (n:Nat) (e:TypeId) (v:Value) (xs:List Value):Prop where
 own:W.ownsRow n e 1 v xs.length xs
 tag:∀g,v.ownBlock=some g->T g=0
section
variable {W W':World} {T T':Nat->Nat} {n:Nat} {e ei eu:TypeId} {v u x:Value} {xs ys:List Value} {A:Adr} {S:Nat->Prop} {k:Nat} {F:Nat->List Value}
theorem OwnT.mod(h:OwnT W T n e v xs)(hc:Chg S W W')(hS:∀g,v.ownBlock=some g->¬S g)(hT:∀q,q<W.heap.size->T' q=T q):OwnT W' T' n e v xs:=
 ⟨Zad h.own hc hS,fun g hg=>(hT g (h.own.lt g hg).2).trans (h.tag g hg)⟩
theorem OwnT.below(h:OwnT W T n e v xs)(hb:Below W.heap.size W W'):OwnT W' T n e v xs:=h.mod (Zm hb (fun _=>False)) (fun _ _ e=>e) (fun _ _=>rfl)
theorem OwnT.drew(h:OwnT W T n e v xs):OwnT W.drew T n e v xs:=h.below (Zb _ _).drew
theorem OwnT.step(h:OwnT W T n e v xs)(s:Stp W T A W' T')(hA:∀q,A.has q->q<n):OwnT W' T' n e v xs:=
 h.mod s.chg (fun g hg e=>e.elim (fun e=>e (h.tag g hg)) fun e=>by have:=hA g e;have:=(h.own.lt g hg).1;omega) s.tags
end
structure HoP (R:RS) (V:Nat->Nat->Sec) (M C S m a b:Nat):Prop where
 good:Good R V
 wait:R.wait= []
 bud:Bud R a b
 fit:Fit R.s (fun _=>True) R.szs
 down:∀r,R.dn m r=true
 m:m<M
 M:R.M=M
 C:R.C=C
 S:R.S=S
section
variable {R:RS} {V:Nat->Nat->Sec} {M C S m a b:Nat}
theorem HoP.anew(h:HcP R V M C S ring lazy a b)(hw:R.wait= [])(hm:m<M):HoP (R.anew m) V M C S m a b:=by
 obtain⟨g1,g2,g3⟩:=h.good.anew h.up (m:=m) (by rw[h.M];exact hm);obtain⟨b0,b1,b2,b3,x,b4,b5⟩:=h.bud;refine⟨g1,hw,⟨b0,b1,b2,b3,x,fun i hi y hy=> ?_,b5⟩,g2,g3,hm,h.M,h.C,h.S⟩;change (if i=m*3 then some _ else R.s.pos i)=some y at hy;by_cases e:i=m*3
 ·rw[Zf e]at hy
  simp only [Zg]at hy;subst hy;exact Nat.zero_le _
 ·rw[Ze e]at hy
  exact b4 i hi y hy
end
section
variable {w0 W W':World} {T T':Nat->Nat} {A:Adr} {R:RS} {V:Nat->Nat->Sec} {L:List (Nat×Array Value×TypeId)} {M C S m a b:Nat}
structure Lo (w0 W:World) (T:Nat->Nat) (A:Adr) (R:RS) (n:Nat) (lg:Option Nat) (vw:Value) (X:List OP) (L:List (Nat×Array Value×TypeId)):Prop where
 hb:Hb w0 W T A R L
 rw:RwIn W T A R lg vw X
 low:RwLow A vw X n
 box:∀x∈L,x.1<n
 le:w0.heap.size≤n
 sz:n≤W.heap.size
theorem Hb.lo(h:Hb w0 W T A R L):∃lg vw X,Lo w0 W T A R W.heap.size lg vw X L:=by
 obtain⟨lg,vw,X,hr⟩:=h.hn.rw;exact⟨lg,vw,X,h,hr,hr.low,fun x hx=>(h.box x hx).1.lt,h.hn.bel.size,Za _⟩
section
variable {n:Nat} {lg:Option Nat} {vw:Value} {X:List OP}
theorem Lo.has(h:Lo w0 W T A R n lg vw X L):∀q,A.has q->q<n:=fun q e=>by
 have:=h.low;rcases e with rfl|rfl|rfl|rfl
 ·exact this.q
 ·exact this.wp
 ·exact this.rp
 ·exact this.fg
end
theorem Zxv{n':Nat}{l:List UInt8}(hl:l.length≤9223372036854775807)(hu:OwnT W T n 5 u (ucells l))(hv:OwnT W T n' 5 v (ucells l)):
  Calls Zw 28 #[u,v] W fun e w'=>e=Zu (.bool true)/\Below W.heap.size W w':=Zyk hl (Zxo hu.own) (Zxo hv.own)
theorem Zyi(hg:geoIs M C S=true)(hP:S*C=P)(W:World):Calls Zw 24 #[.agg #[O Z M,O Z C,O Z S]] W fun e w'=>e=Zu (O Z (P:Int))/\Below W.heap.size W w':=by
 have:=Zo0 M C S W;rw[Zg0 hg,hP]at this;exact this
theorem HcP.geoM(h:HcP R V M C S ring lazy a b):geoIs M C S=true:=by
 have:=h.good.geo;rwa [h.M,h.C,h.S]at this
theorem Zyh(h:Hb w0 W T A R L)(hp:HcP R V M C S ring lazy a b)(hb:b≤900000)(hm:m<M):
  Calls Zw 30 #[Zs (some ⟨A.b,0,none⟩),O Z m] W fun e w'=>e=Zu (.int .u16 0)/\Hb w0 w' T A {R with s:=R.s.lose m} L:=by
 have hn:m<R.s.n:=by rw[hp.good.n,hp.M];omega
 obtain⟨x,hx,-⟩:=(hp.good.allUp hp.up).dev m hn trivial;refine(Zw6 h.hn m hn x hx (hp.bud.small' (by omega))).mono ?_;rintro e w' ⟨rfl,k1,k2⟩;exact⟨rfl,h.step k1 k2⟩
end
end
def RS.markedAt(R:RS)(m f:Nat):RS:={R with fr:=fun j=>if j=m then (f:Int)else R.fr j}
theorem rows_mark_at(h:RwIn w T A R lg vw X)(m f:Nat)(hm:m<R.M):
  Calls Zw 13 #[.pointer (some ⟨A.q,0,none⟩),.int .i64 m,.bool true,.int .i64 f] w fun e w'=>e=.returned (.tuple #[])/\RwIn w' T A (R.markedAt m f) lg vw X/\Chg (fun q=>A.has q) w w':=by
 have hi:(decide ((0:Int)≤m)&&decide ((m:Int)<(R.M:Int)))=true:=by simp;omega
 have HI:=Zf1 (A:=A) (R:=R) (vw:=vw) m w h.rw;rw[hi]at HI;have HI:=hid HI;have c6:w.cell? ⟨A.q,6,none⟩=some (.slice (some ⟨A.fg,0,none⟩) R.M R.M):=h.rw.cell 6;have cm:w.cell? ⟨A.fg,m,none⟩=some (.int .i64 (R.fr m)):=(h.fr.cell m).trans (Zjc _ _ _ hm);have fm:=h.fr.free m;have hqf:A.q≠A.fg:=Zaw h.rw h.fr (by decide);have hql:=h.rw.lt;have hfl:=h.fr.lt;have H1:=hid (h.setF m (-1) hm);have HC1:Hid (Chg (fun q=>A.has q) w (w.setCell ⟨A.fg,m,none⟩ (.int .i64 (-1)))):=Zk (S:=fun q=>A.has q) (Zl _ _) ⟨A.fg,m,none⟩ (.inl (.inr (.inr (.inr rfl)))) _;have HMX:Hid ((f:Int)=if (0:Int)<(f:Int)then (f:Int)else 0):=by show _=_;split<;>omega
 clear h hi;have c6':(w.setCell ⟨A.fg,m,none⟩ (O Z (-1))).cell? ⟨A.q,6,none⟩=some (Zt (some ⟨A.fg,0,none⟩) R.M R.M):=H1.out.rw.cell 6;have fm':=H1.out.fr.free m;go_enter Tryz.func13,Tryz.ntmps13
 go_wp2_with (first
  |(go_at_call 52;(with_reducible refine HI.out.mono ?_);rintro e w1 ⟨rfl,hw1⟩;subst hw1)
  |(refine Zi5 rfl _ _ 3 rfl _ _ (f:Int) rfl rfl HMX.out ?_))
 have H2:=H1.out.setF m f hm;(try simp only [Exit.inBlock,Exit.then]);refine bodyPost_end (results_none rfl _ _ _) rfl ⟨rfl,?_,HC1.out.trans (Zk (S:=fun q=>A.has q) (Zl _ _) ⟨A.fg,m,none⟩ (.inl (.inr (.inr (.inr rfl)))) _)⟩;have e:(fun j=>if j=m then (f:Int)else if j=m then -1 else R.fr j)=fun j=>if j=m then (f:Int)else R.fr j:=by
  funext j;by_cases e:j=m
  ·rw[Zf e,Zf e]
  ·rw[Ze e,Ze e,Ze e]
 unfold RS.markedAt;rw[<-e];exact H2
theorem n_mark_at(h:Hn w0 W T A R)(m f:Nat)(hm:m<R.M):
  Calls Zw 13 #[Zs (some ⟨A.q,0,none⟩),O Z m,.bool true,O Z f] W fun e w'=>e=Zu (.tuple #[])/\Hn w0 w' T A (R.markedAt m f)/\Stp W T A w' T:=by
 obtain⟨lg,vw,X,hr⟩:=h.rw;refine(rows_mark_at hr m f hm).mono ?_;rintro e w' ⟨rfl,h1,h2⟩;have hst:Stp W T A w' T:=⟨fun _ _=>rfl,h2.mono fun q e=>.inr e⟩;obtain⟨k4,k5⟩:=h.next hst;exact⟨rfl,⟨⟨lg,vw,X,h1⟩,k4,k5⟩,hst⟩
section
structure HwP (R:RS) (V:Nat->Nat->Sec) (M C S ring:Nat) (lazy:Bool) (m f a b:Nat):Prop where
 good:Good R V
 idle:R.lazy=true\/R.wait= []
 bud:Bud R a b
 fr:R.fr=fun j=>if j=m then (f:Int)else -1
 fit:Fit R.s (fun _=>True) R.szs
 aside:∀q,q%3≠0->R.s.pos q=none
 m:m<M
 M:R.M=M
 C:R.C=C
 S:R.S=S
 size:R.size=ring
 lazy:R.lazy=lazy
section
variable {R R':RS} {V V':Nat->Nat->Sec} {M C S ring:Nat} {lazy:Bool} {m f a b a' b':Nat}
theorem dn_from(hf:R.fr=fun j=>if j=m then (f:Int)else -1)(j r:Nat):R.dn j r=decide (j=m/\f≤r):=by
 unfold RS.dn;rw[hf];by_cases e:j=m
 ·have h1:(f:Int)≠ -1:=by omega
  simp[e,h1]
 ·simp[e]
theorem HwP.start(h:HcP R V M C S ring lazy a b)(hw:R.wait= [])(hm:m<M):HwP (R.anew m) V M C S ring lazy m 0 a b:=by
 have k:=HoP.anew h hw hm;refine⟨k.good,.inr hw,k.bud,?_,k.fit,fun q hq=> ?_,hm,h.M,h.C,h.S,h.size,h.lazy⟩
 ·show(fun j=>if j=m then (if true=true then 0 else -1)else R.fr j)=_
  funext j;rw[h.up];rfl
 ·show(if q=m*3 then _ else R.s.pos q)=none
  rw[Ze (by omega)];exact h.aside q hq
theorem HwP.mono(h:HwP R V M C S ring lazy m f a b)(ha:a≤a')(hb:b≤b'):HwP R V M C S ring lazy m f a' b':=⟨h.good,h.idle,h.bud.mono ha hb,h.fr,h.fit,h.aside,h.m,h.M,h.C,h.S,h.size,h.lazy⟩
theorem HwP.next(h:HwP R V M C S ring lazy m f a b)(hs:Same R R')(hg:Good R' V')(hi:R'.lazy=true\/R'.wait= [])(hb:Bud R' a' b'):HwP R' V' M C S ring lazy m f a' b':=by
 have hfr:=hs.fr.trans h.fr;have hp:=(Zbe hg.geo).2.2.1;have hsz:R'.szs=R.szs:=by funext j;unfold RS.szs;rw[hs.M,hs.S,hs.C,hs.size]
 refine⟨hg,hi,hb,hfr,⟨hg.fit.dark,hg.fit.trip,fun j hj _=> ?_⟩,fun q hq=>(hs.base.aside q hq).trans (h.aside q hq),h.m,hs.M.trans h.M,hs.C.trans h.C,hs.S.trans h.S,hs.size.trans h.size,hs.lazy.trans h.lazy⟩;have hn:=hg.n;by_cases e:j=m/\f=0
 ·obtain⟨e1,e2⟩:=e
  subst e1;have hm:=h.m;rw[hs.base.gone j (by rw[h.M];exact hm) (by rw[h.fr,e2];simp),hsz];exact h.fit.dev j (by rw[h.good.n,h.M];omega) trivial
 ·refine hg.fit.dev j hj ?_
  by_cases e3:j=R'.M
  ·exact .inl e3
  ·refine .inr ⟨by omega,0,hp,?_⟩
   rw[dn_from hfr,decide_eq_false_iff_not];omega
theorem HwP.healed{s':BaySt}(h:HwP R V M C S ring lazy m f a b)(hw:R.wait= [])(k:Healed R V m f C s'):HwP {R with s:=s'} V M C S ring lazy m f (a+1000) (b+16):=by
 have hp:=Zbe h.good.geo;have hgi:=(Zam R.M R.C R.S).1 h.good.geo;have hM:=h.M;have hC:=h.C;have hP:C*(R.M-1)≤16*16:=Nat.mul_le_mul (by omega) (by omega);obtain⟨b0,b1,b2,b3,x,b4,b5⟩:=h.bud;have k0:=k.c0;have k1:=k.c1;have k2:=k.c2;refine⟨k.good h.good fun j _=>by rw[dn_from h.fr,decide_eq_true_eq];omega,.inr hw,⟨?_,?_,?_,?_,x+C,k.small x b4,?_⟩,h.fr,⟨k.fit.dark,k.fit.trip,fun j hj _=> ?_⟩,fun q hq=>(k.pos q (by omega)).trans (h.aside q hq),h.m,h.M,h.C,h.S,h.size,h.lazy⟩
 ·show s'.cnt 0≤_;omega
 ·show s'.cnt 1≤_;omega
 ·show s'.cnt 2≤_;omega
 ·show R.next≤_;omega
 ·show x+C+R.wait.length≤_;omega
 ·by_cases e:j=m
  ·exact k.fit.dev j hj (.inr e)
  ·rw[k.pos (j*3) (by omega)]
   have hj':j<s'.n:=hj;exact h.fit.dev j (by rw[<-k.n];exact hj') trivial
theorem HwP.marked(h:HwP R V M C S ring lazy m f a b)(c:Nat)(hs:∀r,f≤r->r<c->r<R.S*R.C->R.s.sec m (1+r)=V m r):HwP (R.markedAt m c) V M C S ring lazy m c a b:=by
 have hfr:(R.markedAt m c).fr=fun j=>if j=m then (c:Int)else -1:=by
  show(fun j=>if j=m then (c:Int)else R.fr j)=_
  funext j;rw[h.fr];by_cases e:j=m
  ·rw[Zf e,Zf e]
  ·rw[Ze e,Ze e]
   exact Ze e
 refine⟨⟨h.good.geo,h.good.n,h.fit.sub fun _ _=>trivial,h.good.len,h.good.even,fun r hr i j hi hj e1 e2=> ?_,fun j r hj hr hwt hd=> ?_,⟨h.good.jrn.z1,h.good.jrn.z2,h.good.jrn.tl,h.good.jrn.us,h.good.jrn.ep,h.good.jrn.nx,h.good.jrn.nx2⟩,h.good.inp,h.good.wv,h.good.few⟩,h.idle,⟨h.bud.c0,h.bud.c1,h.bud.c2,h.bud.next,h.bud.small⟩,hfr,h.fit,h.aside,h.m,h.M,h.C,h.S,h.size,h.lazy⟩
 ·have e1':(R.markedAt m c).dn i r=true:=e1
  have e2':(R.markedAt m c).dn j r=true:=e2;rw[dn_from hfr,decide_eq_true_eq]at e1' e2';rw[e1'.1,e2'.1]
 ·rw[dn_from hfr,decide_eq_false_iff_not]at hd
  by_cases hu:j=m/\f≤r
  ·obtain⟨rfl,h2⟩:=hu
   exact hs r h2 (by omega) hr
  ·exact h.good.sec j r hj hr hwt (by rw[dn_from h.fr,decide_eq_false_iff_not];exact hu)
theorem HwP.done(h:HwP R V M C S ring lazy m (S*C) a b):HcP (R.marked m false) V M C S ring lazy a b:=by
 have hfr:(R.marked m false).fr=fun _=> -1:=by
  show(fun j=>if j=m then (if false=true then 0 else -1)else R.fr j)=_
  funext j;rw[h.fr];by_cases e:j=m
  ·rw[Zf e];rfl
  ·rw[Ze e]
   exact Ze e
 have hd:∀j r,(R.marked m false).dn j r=false:=fun j r=>by unfold RS.dn;rw[hfr];simp
 refine⟨⟨h.good.geo,h.good.n,h.fit.sub fun _ _=>trivial,h.good.len,h.good.even,fun r hr i j hi hj e1 e2=> ?_,fun j r hj hr hwt _=> ?_,⟨h.good.jrn.z1,h.good.jrn.z2,h.good.jrn.tl,h.good.jrn.us,h.good.jrn.ep,h.good.jrn.nx,h.good.jrn.nx2⟩,h.good.inp,h.good.wv,h.good.few⟩,h.idle,⟨h.bud.c0,h.bud.c1,h.bud.c2,h.bud.next,h.bud.small⟩,hfr,h.aside,h.M,h.C,h.S,h.size,h.lazy⟩
 ·have e1':(R.marked m false).dn i r=true:=e1
  rw[hd]at e1';cases e1'
 ·refine h.good.sec j r hj hr hwt ?_
  have hr':r<R.S*R.C:=hr;rw[h.S,h.C]at hr';rw[dn_from h.fr,decide_eq_false_iff_not];omega
end
end
section
theorem cutTo_alone(s:BaySt)(ha:∀q,q%3≠0->s.pos q=none)(ks:List (List Bool)):∀k q,(s.cutTo ks k).pos q=if q%3=0/\q/3<k then (s.pos q).map (fun x=>Dev.crash x (ks.getD (q/3) []))else s.pos q
 |0,q=>by rw[Ze (by omega)];rfl
 |k+1,q=>by
  have ih:=cutTo_alone s ha ks k;have hn:((s.cutTo ks k).crashAt k (ks.getD k [])).pos (k*3+2)=none:=by
   show(if k*3+2=k*3 then _ else (s.cutTo ks k).pos (k*3+2))=none
   rw[Ze (by omega),ih,Ze (by omega)];exact ha _ (by omega)
  have hc:((s.cutTo ks k).crashAt k (ks.getD k [])).come k=(s.cutTo ks k).crashAt k (ks.getD k []):=by
   unfold BaySt.come;rw[hn]
  show(((s.cutTo ks k).crashAt k (ks.getD k [])).come k).pos q=_
  rw[hc];show(if q=k*3 then ((s.cutTo ks k).pos (k*3)).map (fun x=>Dev.crash x (ks.getD k []))else (s.cutTo ks k).pos q)=_
  by_cases e:q=k*3
  ·subst e
   rw[Zf rfl,Zf (by omega),ih,Ze (by omega),show k*3/3=k by omega]
  ·rw[Ze e,ih]
   by_cases h:q%3=0/\q/3<k
   ·rw[Zf h,Zf (by omega)]
   ·rw[Ze h,Ze (by omega)]
theorem cut_pos(s:BaySt)(ha:∀q,q%3≠0->s.pos q=none)(ks:List (List Bool))(k:Nat)(hk:k<s.n):(s.cut ks).pos (k*3)=(s.pos (k*3)).map (fun x=>Dev.crash x (ks.getD k [])):=by
 have:=cutTo_alone s ha ks s.n (k*3);rw[Zf (by omega),show k*3/3=k by omega]at this;exact this
theorem crash_calm(h:CalmDev x n)(l:List Bool):CalmDev (x.crash l) n:=h.settled (fun i=>l.getD i false)
theorem crash_dry(h:x.d.cache= [])(l:List Bool):x.crash l=x:=by
 obtain⟨⟨last,cache,failed⟩,worn,left⟩:=x;obtain rfl:cache= []:=h;rfl
theorem cut_fit{G:Nat->Prop}{sz:Nat->Nat}(h:Fit s G sz)(ha:∀q,q%3≠0->s.pos q=none)(ks:List (List Bool)):Fit (s.cut ks) G sz:=by
 refine⟨rfl,rfl,fun k hk hg=> ?_⟩;have hk':k<s.n:=by
  have e:(s.cut ks).n=s.n:=cutTo_n s ks s.n;omega
 obtain⟨x,h1,h2⟩:=h.dev k hk' hg;exact⟨x.crash (ks.getD k []),by rw[cut_pos s ha ks k hk',h1];rfl,crash_calm h2 _⟩
theorem cut_small(ha:∀q,q%3≠0->s.pos q=none)(ks:List (List Bool))(h:s.small n):(s.cut ks).small n:=fun i hi x hx=>by
 have hi':i<3*s.n:=by
  have e:(s.cut ks).n=s.n:=cutTo_n s ks s.n;omega
 have hx':(s.cutTo ks s.n).pos i=some x:=hx;rw[cutTo_alone s ha ks]at hx';by_cases e:i%3=0/\i/3<s.n
 ·rw[Zf e]at hx'
  cases hp:s.pos i with
  |none=>rw[hp]at hx';cases hx'
  |some y=>
   rw[hp]at hx';obtain rfl:=Option.some.inj hx';exact Nat.zero_le _
 ·rw[Ze e]at hx'
  exact h i hi' x hx'
section
variable {R:RS} {V:Nat->Nat->Sec} {M C S ring:Nat} {lazy:Bool} {a b:Nat}
theorem HcP.cut(h:HcP R V M C S ring lazy a b)(hc:Clean R)(ks:List (List Bool)):HcP {R with s:=R.s.cut ks} V M C S ring lazy a b:=by
 have hn:(R.s.cut ks).n=R.s.n:=cutTo_n _ _ _;have hd:∀j r,R.dn j r=false:=fun j r=>by unfold RS.dn;rw[h.up];simp
 have hcn:∀j,(R.s.cut ks).cnt j=R.s.cnt j:=fun j=>congrFun (cutTo_cnt R.s ks R.s.n) j
 obtain⟨b0,b1,b2,b3,x,b4,b5⟩:=h.bud;refine⟨h.good.bay hn (cut_fit h.good.fit h.aside ks) fun m r hm hr=> ?_,h.idle,⟨?_,?_,?_,b3,x,cut_small h.aside ks b4,b5⟩,h.up,fun q hq=> ?_,h.M,h.C,h.S,h.size,h.lazy⟩
 ·obtain⟨y,h1,h2,-⟩:=hc m hm (hd m 0)
  exact Zcn (by rw[cut_pos _ h.aside ks m (by rw[h.good.n];omega),h1];show some (y.crash _)=_;rw[crash_dry h2]) _
 ·show(R.s.cut ks).cnt 0≤_;rw[hcn];exact b0
 ·show(R.s.cut ks).cnt 1≤_;rw[hcn];exact b1
 ·show(R.s.cut ks).cnt 2≤_;rw[hcn];exact b2
 ·show(R.s.cutTo ks R.s.n).pos q=none
  rw[cutTo_alone _ h.aside,Ze (by omega)];exact h.aside q hq
end
end
section
section
variable {w0 W:World} {T:Nat->Nat} {A:Adr} {R:RS} {V:Nat->Nat->Sec} {L:List (Nat×Array Value×TypeId)} {M C S ring:Nat} {lazy:Bool} {m f a b:Nat}
theorem hw_write(h:Hb w0 W T A R L)(hp:HwP R V M C S ring lazy m f a b)(hin:Within a b)(pv:Value)(us:List (Int×List UInt8))(hu:PutSeg w0 pv us):
  Calls Zw 12 #[Zs (some ⟨A.q,0,none⟩),pv] W fun e w'=>(∃c:Nat,e=Zu (.agg #[O Z 0,.int .u16 c]))/\∃T' R' V',Hb w0 w' T' A R' L/\HwP R' V' M C S ring lazy m f (a+1000000) (b+8*us.length+4):=by
 refine(Zwr (h.lat hp.good hp.idle) hp.bud hin pv us hu).mono ?_;rintro e w' ⟨rfl,T',R',V',hl,hs,hb,hsm,-⟩;exact⟨⟨_,rfl⟩,T',R',V',h.step hl.hn hs,hp.next hsm hl.good hl.idle hb⟩
theorem hw_settle(h:Hb w0 W T A R L)(hp:HwP R V M C S ring lazy m f a b)(hin:Within a b):
  Calls Zw 29 #[Zs (some ⟨A.q,0,none⟩)] W fun e w'=>e=Zu (.agg #[O Z 0,.int .u16 0])/\∃T' R',Hb w0 w' T' A R' L/\HwP R' V M C S ring lazy m f (a+1000) b/\R'.wait= []:=by
 refine(Zyf (h.lat hp.good hp.idle) hp.bud hin).mono ?_;rintro e w' ⟨rfl,T',R',hl,hs,hb,hsm,hw,-⟩;exact⟨rfl,T',R',h.step hl.hn hs,hp.next hsm hl.good hl.idle hb,hw⟩
theorem hw_step{s:Nat}(h:Hb w0 W T A R L)(hp:HwP R V M C S ring lazy m (s*C) a b)(hw:R.wait= [])(hin:Within a b)(hs:s<S):
  Calls Zw 15 #[Zs (some ⟨A.b,0,none⟩),.agg #[O Z M,O Z C,O Z S],Zs (some ⟨A.q,0,none⟩),O Z m,O Z s] W fun e w'=>e=Zu (.agg #[O Z 0,.int .u16 0])/\∃T' R',Hb w0 w' T' A R' L/\HwP R' V M C S ring lazy m (s*C) (a+1000) (b+16)/\R'.wait= []/\∀r,s*C≤r->r<(s+1)*C->r<S*C->R'.s.sec m (1+r)=V m r:=by
 have i1:=hin.a;have i2:=hin.b;have b0:=hp.bud.c0;have b1:=hp.bud.c1;have b2:=hp.bud.c2;have k:=Zvb (h.lat hp.good hp.idle) hw m s (by rw[hp.M];exact hp.m) (by rw[hp.S];exact hs) (fun k _=>by rw[dn_from hp.fr,decide_eq_true_eq,hp.C];omega) (hp.fit.sub fun _ _=>trivial) (by omega) (by omega) (by omega) (hp.bud.small' (by omega));have e0:(.agg #[O Z R.M,O Z R.C,O Z R.S]:Value)=.agg #[O Z M,O Z C,O Z S]:=by rw[hp.M,hp.C,hp.S]
 rw[e0]at k;refine k.mono ?_;rintro e w' ⟨rfl,T',s',k1,k2,k3⟩;rw[hp.C]at k3;refine⟨rfl,T',_,h.step k1.hn k2,hp.healed hw k3,hw,fun r h1 h2 h3=> ?_⟩;have e1:(s+1)*C=s*C+C:=by rw[Nat.add_mul,Nat.one_mul]
 have:=k3.sec (1+r) (by rw[hp.S,hp.C];omega);rw[Zf (by omega),show 1+r-1=r by omega]at this;exact this
theorem hw_mark{s:Nat}(h:Hb w0 W T A R L)(hp:HwP R V M C S ring lazy m (s*C) a b)(hs:∀r,s*C≤r->r<(s+1)*C->r<S*C->R.s.sec m (1+r)=V m r)(hz:z=(((s+1)*C:Nat):Int)):
  Calls Zw 13 #[Zs (some ⟨A.q,0,none⟩),O Z m,.bool true,O Z z] W fun e w'=>e=Zu (.tuple #[])/\∃R',Hb w0 w' T A R' L/\HwP R' V M C S ring lazy m ((s+1)*C) a b:=by
 subst hz;refine(n_mark_at h.hn m ((s+1)*C) (by rw[hp.M];exact hp.m)).mono ?_;rintro e w' ⟨rfl,k1,k2⟩;exact⟨rfl,_,h.step k1 k2,hp.marked _ (fun r h1 h2 h3=>hs r h1 h2 (by rw[<-hp.S,<-hp.C];exact h3))⟩
theorem hw_up(h:Hb w0 W T A R L)(hp:HwP R V M C S ring lazy m (S*C) a b):
  Calls Zw 13 #[Zs (some ⟨A.q,0,none⟩),O Z m,.bool false,O Z 0] W fun e w'=>e=Zu (.tuple #[])/\∃R',Hb w0 w' T A R' L/\HcP R' V M C S ring lazy a b:=by
 refine(Zvf h.hn m false (by rw[hp.M];exact hp.m)).mono ?_;rintro e w' ⟨rfl,k1,k2⟩;exact⟨rfl,_,h.step k1 k2,hp.done⟩
theorem hw_down(h:Hb w0 W T A {R with s:=R.s.lose m} L)(hp:HcP R V M C S ring lazy a b)(hm:m<M):
  Calls Zw 13 #[Zs (some ⟨A.q,0,none⟩),O Z m,.bool true,O Z 0] W fun e w'=>e=Zu (.tuple #[])/\Hb w0 w' T A {R.marked m true with s:=R.s.lose m} L:=by
 refine(Zvf h.hn m true (by show m<R.M;rw[hp.M];exact hm)).mono ?_;rintro e w' ⟨rfl,k1,k2⟩;exact⟨rfl,h.step k1 k2⟩
theorem hw_swap(h:Hb w0 W T A {R.marked m true with s:=R.s.lose m} L)(hp:HcP R V M C S ring lazy a b)(hw:R.wait= [])(hm:m<M)(hP:S*C=P)(hz:z=1+(P:Int)):
  Calls Zw 31 #[Zs (some ⟨A.b,0,none⟩),O Z m,O Z z] W fun e w'=>e=Zu (.int .u16 0)/\∃T' R',Hb w0 w' T' A R' L/\HwP R' V M C S ring lazy m 0 a b:=by
 have hn:m<R.s.n:=by rw[hp.good.n,hp.M];omega
 obtain⟨x,hx,-⟩:=(hp.good.allUp hp.up).dev m hn trivial;have hx':(R.s.lose m).pos (m*3)=some ⟨⟨x.d.last,[],true⟩,x.worn,x.left⟩:=by
  show(if m*3=m*3 then (R.s.pos (m*3)).map (fun x=>(⟨⟨x.d.last,[],true⟩,x.worn,x.left⟩:Dev))else R.s.pos (m*3))=_
  rw[Zf rfl,hx];rfl
 have h2:(R.s.lose m).pos (m*3+2)=none:=by
  show(if m*3+2=m*3 then (R.s.pos (m*3+2)).map (fun x=>(⟨⟨x.d.last,[],true⟩,x.worn,x.left⟩:Dev))else R.s.pos (m*3+2))=_
  rw[Ze (by omega)];exact hp.aside _ (by omega)
 have hf:R.S*R.C≤4096:=(Zbe hp.good.geo).2.2.2;have k:=Zw3 (R:={R.marked m true with s:=R.s.lose m}) h.hn m (1+R.S*R.C) hn hx' rfl h2 (by omega) (by omega);have e3:((1+R.S*R.C:Nat):Int)=z:=by rw[hz,<-hP,hp.S,hp.C];omega
 rw[e3]at k;refine k.mono ?_;rintro e w' ⟨rfl,T',k1,k2⟩;have e:({({R.marked m true with s:=R.s.lose m}:RS)with s:=({R.marked m true with s:=R.s.lose m}:RS).s.laid (m*3) ⟨freshDsk (1+R.S*R.C),false,0⟩}:RS)=R.anew m:=by
  show({R.marked m true with s:=(R.s.lose m).laid (m*3) ⟨freshDsk (1+R.S*R.C),false,0⟩}:RS)=_
  rw[Zs4]
 rw[e]at k1;exact⟨rfl,T',_,h.step k1 k2,HwP.start hp hw hm⟩
theorem hc_empty(h:Hb w0 W T A R L)(hp:HcP R V M C S ring lazy a b)(hin:Within a b):
  Calls Zw 23 #[Zs (some ⟨A.q,0,none⟩)] W fun e w'=>e=Zu (.agg #[O Z 0,.int .u16 0])/\∃T' R',Hb w0 w' T' A R' L/\HcP R' V M C S ring lazy (a+1000) (b+1)/\R'.wait= []/\Clean R':=by
 refine(l_empty (h.lat hp.good hp.idle) hp.bud hin).mono ?_;rintro e w' ⟨rfl,T',R',hl,hs,hb,hsm,hw,-,he⟩;exact⟨rfl,T',R',h.step hl.hn hs,hp.next hsm hl.good hl.idle hb,hw,hp.good.clean he⟩
theorem hc_cut(h:Hb w0 W T A R L)(hp:HcP R V M C S ring lazy a b)(hc:Clean R)(hb:b≤900000):
  Calls Zw 37 #[Zs (some ⟨A.b,0,none⟩),Zt none 0 0] W fun e w'=>e=Zu (.tuple #[])/\∃R',Hb w0 w' T A R' L/\HcP R' V M C S ring lazy a b:=by
 obtain⟨lg,vw,X,hr⟩:=h.hn.rw;refine(bay_cut hr.bay (Zt none 0 0) [] ?_ (hp.bud.small' (by omega)).in).mono ?_
 ·exact⟨none,0,rfl,by simp,.inl rfl⟩
 rintro e w' ⟨rfl,k1,k2⟩;have hst:Stp W T A w' T:=Stp.ofBay k2;obtain⟨k4,k5⟩:=h.hn.next hst;exact⟨rfl,_,h.step ⟨⟨lg,vw,X,hr.turn k1 (fun _ _=>rfl) k2⟩,k4,k5⟩ hst,hp.cut hc []⟩
theorem HcP.ticks(h:HcP R V M C S ring lazy a b)(c:Nat):HcP {R with s:=R.s.ticks 0 c} V M C S ring lazy (a+c) b:=
 ⟨h.good.ticks c,h.idle,h.bud.ticks c,h.up,h.aside,h.M,h.C,h.S,h.size,h.lazy⟩
theorem hc_reads(h:Hb w0 W T A R L)(p:HcP R V M C S ring lazy a b)(hin:Within (a+2000000) b)(hD:allOf R V=D):
  Calls Zw 32 #[Zs (some ⟨A.q,0,none⟩),.agg #[O Z M,O Z C,O Z S]] W fun e w'=>∃v R',e=Zu (.tuple #[v,.bool true])/\OwnT w' T W.heap.size 5 v (ucells D)/\Hb w0 w' T A R' L/\HcP R' V M C S ring lazy (a+1044480) b/\allOf R' V=D/\Stp W T A w' T:=by
 have e0:(.agg #[O Z M,O Z C,O Z S]:Value)=geo R.M R.C R.S:=by unfold geo;rw[p.M,p.C,p.S]
 rw[e0];refine(Zx8 (h.lat p.good p.idle) p.bud hin).mono ?_;rintro e w' ⟨v,c,rfl,k1,k2,k3,k4⟩;have hst:Stp W T A w' T:=Stp.ofBay k3;refine⟨v,_,rfl,⟨?_,fun g hg=>h.hn.virg g (k1.lt g hg).1⟩,h.step k2.hn hst,(p.ticks c).more (by omega) (Za _),hD,hst⟩;rw[<-hD,Zag,Zxl p.good];exact k1
theorem hc_reads2(h:Hb w0 W T A (R.marked j true) L)(p:HcP R V M C S ring lazy a b)(hin:Within (a+2000000) b)(hD:allOf R V=D):
  Calls Zw 32 #[Zs (some ⟨A.q,0,none⟩),.agg #[O Z M,O Z C,O Z S]] W fun e w'=>∃v R',e=Zu (.tuple #[v,.bool true])/\OwnT w' T W.heap.size 5 v (ucells D)/\Hb w0 w' T A (R'.marked j true) L/\HcP R' V M C S ring lazy (a+1044480) b/\allOf R' V=D/\Stp W T A w' T:=by
 have e0:(.agg #[O Z M,O Z C,O Z S]:Value)=geo (R.marked j true).M (R.marked j true).C (R.marked j true).S:=by unfold geo;show _=Value.agg #[O Z R.M,O Z R.C,O Z R.S];rw[p.M,p.C,p.S]
 rw[e0];have hbu:Bud (R.marked j true) a b:=⟨p.bud.c0,p.bud.c1,p.bud.c2,p.bud.next,p.bud.small⟩;refine(Zx8 (h.lat (p.good.mark p.up j) p.idle) hbu hin).mono ?_;rintro e w' ⟨v,c,rfl,k1,k2,k3,k4⟩;have hst:Stp W T A w' T:=Stp.ofBay k3;refine⟨v,_,rfl,⟨?_,fun g hg=>h.hn.virg g (k1.lt g hg).1⟩,h.step k2.hn hst,(p.ticks c).more (by omega) (Za _),hD,hst⟩;rw[<-hD,Zag,Zxl p.good];exact k1
theorem hc_down(h:Hb w0 W T A R L)(p:HcP R V M C S ring lazy a b)(j:Nat)(hj:j<M):
  Calls Zw 13 #[Zs (some ⟨A.q,0,none⟩),O Z j,.bool true,O Z 0] W fun e w'=>e=Zu (.tuple #[])/\Hb w0 w' T A (R.marked j true) L/\Stp W T A w' T:=by
 refine(Zvf h.hn j true (by rw[p.M];exact hj)).mono ?_;rintro e w' ⟨rfl,k1,k2⟩;exact⟨rfl,h.step k1 k2,k2⟩
theorem hc_back(h:Hb w0 W T A (R.marked j true) L)(p:HcP R V M C S ring lazy a b)(hj:j<M):
  Calls Zw 13 #[Zs (some ⟨A.q,0,none⟩),O Z j,.bool false,O Z 0] W fun e w'=>e=Zu (.tuple #[])/\Hb w0 w' T A R L/\Stp W T A w' T:=by
 refine(Zvf h.hn j false (by show j<R.M;rw[p.M];exact hj)).mono ?_;rintro e w' ⟨rfl,k1,k2⟩;have e1:(R.marked j true).marked j false=R:=by
  have e2:(fun i=>if i=j then (if false=true then 0 else -1)else (R.marked j true).fr i)=R.fr:=by
   rw[p.up];funext i;by_cases e:i=j
   ·rw[Zf e];rfl
   ·rw[Ze e]
    show(if i=j then _ else R.fr i)=_
    rw[Ze e,p.up]
  show({R with fr:=(fun i=>if i=j then (if false=true then 0 else -1)else (R.marked j true).fr i)}:RS)=R
  rw[e2]
 rw[e1]at k1;exact⟨rfl,h.step k1 k2,k2⟩
theorem hc_len(p:HcP R V M C S ring lazy a b)(hD:allOf R V=D):D.length≤9223372036854775807:=by
 rw[<-hD];exact Zc (Zx6 p.good) (by omega)
theorem Hb.has(h:Hb w0 W T A R L):∀q,A.has q->q<W.heap.size:=by
 obtain⟨lg,vw,X,hl⟩:=h.lo;exact hl.has
end
def hwA(l:List (List (Int×List UInt8)))(hf s:Nat):Nat:=swA (min (hf+s) l.length)+1000+10000*s
def hwB(l:List (List (Int×List UInt8)))(hf s:Nat):Nat:=swB l (min (hf+s) l.length)+1+16*s
theorem hw_more1{l:List (List (Int×List UInt8))}{s:Nat}(h:hf+s<l.length):hwA l hf s+1002000≤hwA l hf (s+1)/\hwB l hf s+8*(l[hf+s]'h).length+20≤hwB l hf (s+1):=by
 unfold hwA hwB;rw[Nat.min_eq_left (by omega),show hf+(s+1)=(hf+s)+1 by omega,Nat.min_eq_left (by omega),Zug,Zu6 h];omega
theorem hw_more0{l:List (List (Int×List UInt8))}{s:Nat}(h:¬hf+s<l.length):hwA l hf s+2000≤hwA l hf (s+1)/\hwB l hf s+16≤hwB l hf (s+1):=by
 unfold hwA hwB;rw[Nat.min_eq_right (by omega),Nat.min_eq_right (by omega)];omega
theorem hw_zero{l:List (List (Int×List UInt8))}(h:k≤l.length):swA k+1000≤hwA l k 0/\swB l k+1≤hwB l k 0:=by
 show swA k+1000≤swA (min k l.length)+1000+10000*0/\swB l k+1≤swB l (min k l.length)+1+16*0
 rw[Nat.min_eq_left h];omega
theorem hw_in{m c s':Int}{l:List (List (Int×List UInt8))}(h:FewHeal m c s' l)(hf s:Nat)(hs:s≤256):Within (hwA l hf s+100000000000) (hwB l hf s+50000):=by
 have:=Zre h (k:=min (hf+s) l.length) (Nat.min_le_right _ _);unfold hwA hwB;exact⟨by have:=this.a;omega,by have:=this.b;omega⟩
end
theorem healWhole_no(m c s ring:Int)(lazy:Bool)(a1:Int)(v:Value)(l:List (List (Int×List UInt8)))(w:World)(hv:HOpSeg w v l)(h:mayIs m c s ring=false):
  Calls Zw 6 #[geo m c s,O Z ring,.bool lazy,O Z a1,v] w fun e w'=>e=Zu (.bool true)/\Below w.heap.size w w':=by
 have hb0:Below w.heap.size w (w.alloc (Zv #[O Z m,O Z c,O Z s] 23)):=(Zb _ _).alloc (Za _) _;have ha0:At (w.alloc (Zv #[O Z m,O Z c,O Z s] 23)) w.heap.size #[O Z m,O Z c,O Z s] 23:=At.new _ _ _;have KU:=hid (Zol m c s v l _ (hv.below hb0));have KK:Hid (∀W,Calls Zw 9 #[] W fun e w'=>e=Zu (.bool true)/\Below W.heap.size W w'):=Zl0;have KM:Hid (∀W,Calls Zw 10 #[geo m c s,O Z ring] W fun e w'=>e=Zu (.bool false)/\Below W.heap.size W w'):=fun W=>by
  have:=Zri m c s ring W;rw[h]at this;exact this
 have HB0:=hid hb0;have HA0:=hid ha0;have c0:=ha0.cell 0;have c1:=ha0.cell 1;have c2:=ha0.cell 2;have hl0:=ha0.lt;unfold geo at*;clear hb0 ha0 h hv;go_enter Tryz.func6,Tryz.ntmps6
 go_wp2_with (first
  |(go_at_call 8;(with_reducible refine KU.out.mono ?_);rintro e w1 ⟨r,rfl,hr,hb1⟩;clear c0 c1 c2;have HB1:=hid (Zac HB0.out hb1);have HA1:=hid (HA0.out.below hb1 HA0.out.lt);clear hr hb1)
  |(go_at_call 9;(with_reducible refine(KK.out _).mono ?_);rintro e w2 ⟨rfl,hb2⟩;have HB2:=hid (Zac HB1.out hb2);have ha2:=HA1.out.below hb2 HA1.out.lt;have c0:=ha2.cell 0;have c1:=ha2.cell 1;have c2:=ha2.cell 2;have hl2:=ha2.lt;clear ha2 hb2)
  |(go_at_call 10;(with_reducible refine(KM.out _).mono ?_);rintro e w3 ⟨rfl,hb3⟩;have HB3:=hid (Zac HB2.out hb3);clear hb3))
 all_goals (first|(go_ret;exact⟨rfl,HB3.out⟩)|(go_ret;exact⟨rfl,HB1.out⟩))
theorem healWhole_go(M C S ring:Nat)(lazy:Bool)(a1:Int)(v:Value)(l:List (List (Int×List UInt8)))(w:World)(hv:HOpSeg w v l)(hg:geoIs M C S=true)(h5:5≤ring)(h6:ring≤2048):
  Calls Zw 6 #[geo M C S,O Z ring,.bool lazy,O Z a1,v] w fun e w'=>e=Zu (.bool true)/\Below w.heap.size w w':=by
 have hb0:Below w.heap.size w (w.alloc (Zv #[O Z M,O Z C,O Z S] 23)):=(Zb _ _).alloc (Za _) _;have ha0:At (w.alloc (Zv #[O Z M,O Z C,O Z S] 23)) w.heap.size #[O Z M,O Z C,O Z S] 23:=At.new _ _ _;have KU:=hid (Zol M C S v l _ (hv.below hb0));have KK:Hid (∀W,Calls Zw 9 #[] W fun e w'=>e=Zu (.bool true)/\Below W.heap.size W w'):=Zl0;have KM:Hid (∀W,Calls Zw 10 #[geo M C S,O Z ring] W fun e w'=>e=Zu (.bool true)/\Below W.heap.size W w'):=fun W=>by
  have:=Zri M C S ring W;have hm:mayIs M C S ring=true:=by
   unfold mayIs;rw[hg,decide_eq_true (show(5:Int)≤ring by omega),decide_eq_true (show(ring:Int)≤2048 by omega)];rfl
  rw[hm]at this;exact this
 have KD:=hid (fun W=>Zom M C S ring lazy W hg h5 h6);have HPB:Hid (HcP (made0R M C S ring lazy) zeroV M C S ring lazy 10000 3000):=HcP.begun hg h5 h6;have hgb:=Zbe hg;have hgi:=(Zam M C S).1 hg;have HB0:=hid hb0;have HA0:=hid ha0;have HV:=hid hv;have c0:=ha0.cell 0;have c1:=ha0.cell 1;have c2:=ha0.cell 2;have hl0:=ha0.lt;have hlf:=hv.few;obtain⟨va,vc,rfl⟩:=hv.shape;unfold geo at*;clear hb0 ha0 hv h5 h6 hg;go_enter Tryz.func6,Tryz.ntmps6
 go_upto_region 10 with (first
  |(go_at_call 8;(with_reducible refine KU.out.mono ?_);rintro e w1 ⟨r,rfl,hr,hb1⟩;clear c0 c1 c2;have HMU:=hid hr;have HB1:=hid (Zac HB0.out hb1);have HA1:=hid (HA0.out.below hb1 HA0.out.lt);clear hr hb1)
  |(go_at_call 9;(with_reducible refine(KK.out _).mono ?_);rintro e w2 ⟨rfl,hb2⟩;have HB2:=hid (Zac HB1.out hb2);have ha2:=HA1.out.below hb2 HA1.out.lt;have c0:=ha2.cell 0;have c1:=ha2.cell 1;have c2:=ha2.cell 2;have hl2:=ha2.lt;have HA2:=hid ha2;clear ha2 hb2)
  |(go_at_call 10;(with_reducible refine(KM.out _).mono ?_);rintro e w3 ⟨rfl,hb3⟩;clear c0 c1 c2;have HB3:=hid (Zac HB2.out hb3);have ha3:=HA2.out.below hb3 HA2.out.lt;have c0:=ha3.cell 0;have c1:=ha3.cell 1;have c2:=ha3.cell 2;have hl3:=ha3.lt;have HA3:=hid ha3;clear ha3 hb3)
  |(go_at_call 11;(with_reducible refine(KD.out w3).mono ?_);rintro e w4 ⟨T,A,pp,cp,sp,rfl,k1,k2,k3,k4⟩;clear c0 c1 c2;have HBX:Hid (Hb w3 w4 T A (made0R M C S ring lazy) [pairBox pp A cp sp,gBox w.heap.size M C S]):=Zwe k1 k2 k3 HA3.out;have HVV:Hid (HOpSeg w3 (Zt va l.length vc) l):=HV.out.below HB3.out;clear k1 k2 k3 k4))
 any_goals (first|(go_ret;exact⟨rfl,HB1.out⟩)|skip)
 have HFW:Hid (FewHeal M C S l):=HMU.out (by first|assumption|(exact Bool.eq_false_iff.2 (by assumption))|(cases r<;>simp_all));clear KU KK KM KD HMU HA0 HA1 HA2 HV HB0 HB1 HB2;have tm: -(M:Int)<Int.tmod a1 M/\Int.tmod a1 M<M:=by
  have h1:=Int.natAbs_tmod a1 M;have h2:a1.natAbs%M<M:=Nat.mod_lt _ (by omega);have h3:(Int.tmod a1 M).natAbs<M:=by rw[h1,Int.natAbs_natCast];exact h2
  omega
 have m0a:¬M=0:=by omega
 have m0c:¬(M:Int)=0:=by omega
 obtain⟨r1a,r1b⟩:=tm;have c0:=(HBX.out.get 1 rfl).cell 0;have hlw:=(HBX.out.get 1 rfl).lt;go_upto_if 41 with fail
 go_cut [12]from 42 to 45 (fun s12 wx=>∃m0:Nat,m0<M/\s12=O Z m0/\wx=w4);case first=>
  by_cases hneg:Int.tmod a1 M<0
  ·go_wp2_with fail
   go_meet;exact⟨(Int.tmod a1 M+M).toNat,by omega,by rw[show(((Int.tmod a1 M+M).toNat:Nat):Int)=Int.tmod a1 M+M by omega],rfl⟩
  ·go_wp2_with fail
   go_meet;exact⟨(Int.tmod a1 M).toNat,by omega,by rw[show(((Int.tmod a1 M).toNat:Nat):Int)=Int.tmod a1 M by omega],rfl⟩
 case rest=>
  obtain⟨m0,hm0,rfl,hwc⟩:=hcut;subst hwc;have HM0:Hid (m0<M):=hm0;clear hm0 c0 hlw;obtain⟨hf,hhf⟩:∃hf,hf=l.length/2:=⟨_,rfl⟩;have hfi:(l.length:Int).tdiv 2=(hf:Int):=by rw[Int.tdiv_eq_ediv_of_nonneg (by omega),hhf];omega
  have HHF:Hid (hf≤l.length):=by show _≤_;omega
  clear hhf;go_wp2_with fail;rw[show wrap64 (hf:Int)=(hf:Int)from by have:=HHF.out;unfold wrap64;omega];clear hfi;go_loopw [14] (fun q wr=>∃k:Nat,k≤hf/\q=O Z k/\∃T R V,Hb w3 wr T A R [pairBox pp A cp sp,gBox w.heap.size M C S]/\HcP R V M C S ring lazy (swA k) (swB l k)) (fun q _=>hf-(intOf q).toNat);case atStart=>exact⟨0,by omega,rfl,_,_,_,HBX.out,HPB.out.more (by unfold swA;omega) (by unfold swB;omega)⟩
  case round=>
   clear HBX HPB;obtain⟨k,hk,rfl,T,R,V,hbx,hpx⟩:=hrel;have HBX:=hid hbx;have HPX:=hid hpx;clear hbx hpx;by_cases hkf:k<hf
   ·have K1:Hid (k+1≤hf):=hkf
    have hkl:k<l.length:=Zd hkf HHF.out;obtain⟨bb,off,rfl,hlt,hx⟩:=HVV.out.full (by omega);obtain⟨u4,x4,q4⟩:=hx k hkl;obtain⟨pa,pc,rfl⟩:=q4.shape;have hbw:=HBX.out.hn.bel;have hlt':bb<wr.heap.size:=Zd hlt hbw.size;have HQ4:=hid q4;have hin:=Zre HFW.out (Nat.le_of_lt hkl);have HIN:Hid (Within (swA k) (swB l k)):=⟨by have:=hin.a;omega,by have:=hin.b;omega⟩;have HNX:Hid (∀R V,HcP R V M C S ring lazy (swA k+1000000) (swB l k+8*(l[k]'hkl).length+4)->HcP R V M C S ring lazy (swA (k+1)) (swB l (k+1))):=fun R V h=>h.more (by rw[Zug];omega) (by rw[Zu6 hkl];omega)
    have HSS:Hid (∀W T R,Hb w3 W T A R [pairBox pp A cp sp,gBox w.heap.size M C S]->W.cell? ⟨pp,2,none⟩=some (Zs (some ⟨A.q,0,none⟩))/\W.cell? ⟨bb,off+k*5+4,none⟩=some (.slice pa (l[k]'hkl).length pc)):=fun W T R h=>⟨(h.get 0 rfl).cell 2,(h.hn.bel.cell (p:=⟨bb,off+k*5+4,none⟩) hlt).trans x4⟩
    clear x4 q4 hx hbw hin;generalize (l[k]'hkl)=us at*;go_wp2;go_region_held3 (fun W=>W.cell? ⟨pp,2,none⟩=some (Zs (some ⟨A.q,0,none⟩))/\W.cell? ⟨bb,off+k*5+4,none⟩=some (Zt pa us.length pc))
     (first|exact HSS.out _ _ _ HBX.out|exact HSS.out _ _ _ (Zbt HBX.out)|exact HSS.out _ _ _ HB9.out)
     (first|(go_at_call 12;(with_reducible refine(Zut (Zbt HBX.out) HPX.out HIN.out _ us HQ4.out).mono ?_);rintro e w9 ⟨⟨cd,rfl⟩,T9,R9,V9,hb9,hp9⟩;have HB9:=hid hb9;have HP9:=hid hp9;clear hb9 hp9))
    go_wp2;exact⟨⟨k+1,K1.out,by go_num,_,_,_,HB9.out,HNX.out _ _ HP9.out⟩,by simp[intOf];have:=K1.out;omega⟩
   ·obtain rfl:k=hf:=by omega
    have hin:=Zre HFW.out HHF.out;have HIB:Hid (Within (swA k+200000000000) (swB l k+100000)):=hin;clear hin;have HS:Hid (∀X T R,Hb w3 X T A R [pairBox pp A cp sp,gBox w.heap.size M C S]->X.cell? ⟨pp,0,none⟩=some (Zs (some ⟨A.b,0,none⟩))/\X.cell? ⟨pp,2,none⟩=some (Zs (some ⟨A.q,0,none⟩))/\X.cell? ⟨w.heap.size,0,none⟩=some (O Z M)/\X.cell? ⟨w.heap.size,1,none⟩=some (O Z C)/\X.cell? ⟨w.heap.size,2,none⟩=some (O Z S)):=fun X T R h=>⟨(h.get 0 rfl).cell 0,(h.get 0 rfl).cell 2,(h.get 1 rfl).cell 0,(h.get 1 rfl).cell 1,(h.get 1 rfl).cell 2⟩
    obtain⟨P,hP⟩:∃P,S*C=P:=⟨_,rfl⟩;have hP4:P≤4096:=by rw[<-hP];exact(Zbe HPX.out.geoM).2.2.2
    have HPP:Hid (S*C=P):=hP;have HRW:Hid (∀W,Calls Zw 24 #[.agg #[O Z M,O Z C,O Z S]] W fun e w'=>e=Zu (O Z (P:Int))/\Below W.heap.size W w'):=Zyi HPX.out.geoM hP;clear hP;have p2:wr.cell? ⟨pp,2,none⟩=some (Zs (some ⟨A.q,0,none⟩)):=(HS.out _ _ _ HBX.out).2.1
    go_upto_region 22 with (first
     |(go_at_call 23;(with_reducible refine(hc_empty HBX.out HPX.out ⟨by have:=HIB.out.a;omega,by have:=HIB.out.b;omega⟩).mono ?_);rintro e w6 ⟨rfl,T6,R6,hb6,hp6,hw6,hc6⟩;clear p2;have HB6:=hid hb6;have HP6:=hid hp6;have HW6:=hid hw6;have p0:w6.cell? ⟨pp,0,none⟩=some (Zs (some ⟨A.b,0,none⟩)):=(HS.out _ _ _ hb6).1;clear hb6 hp6 hw6 hc6)
     |(go_at_call 30;(with_reducible refine(Zyh HB6.out HP6.out (by have:=HIB.out.b;omega) HM0.out).mono ?_);rintro e w7 ⟨rfl,hb7⟩;clear p0;have HB7:=hid hb7;have p2:w7.cell? ⟨pp,2,none⟩=some (Zs (some ⟨A.q,0,none⟩)):=(HS.out _ _ _ hb7).2.1;clear hb7)
     |(go_at_call 13;(with_reducible refine(hw_down HB7.out HP6.out HM0.out).mono ?_);rintro e w8 ⟨rfl,hb8⟩;clear p2;have HB8:=hid hb8;clear hb8))
    go_region_held3 (fun X=>X.cell? ⟨pp,0,none⟩=some (Zs (some ⟨A.b,0,none⟩))/\X.cell? ⟨pp,2,none⟩=some (Zs (some ⟨A.q,0,none⟩))/\X.cell? ⟨w.heap.size,0,none⟩=some (O Z M)/\X.cell? ⟨w.heap.size,1,none⟩=some (O Z C)/\X.cell? ⟨w.heap.size,2,none⟩=some (O Z S))
     (first
      |exact HS.out _ _ _ HB8.out
      |exact HS.out _ _ _ (Zbt HB8.out)
      |exact HS.out _ _ _ HBR.out
      |exact HS.out _ _ _ (Zbt HBR.out)
      |exact HS.out _ _ _ HB9.out)
     (first
      |(go_at_call 24;(with_reducible refine(HRW.out _).mono ?_);rintro e wq ⟨rfl,hbq⟩;(refine Zw5 (P:=Hb w3 wq T6 A {R6.marked m0 true with s:=R6.s.lose m0} [pairBox pp A cp sp,gBox w.heap.size M C S]) ?_ ?_);(focus (refine Zow ?_ hbq;(first|with_reducible exact HB8.out|with_reducible exact Zbt HB8.out)));intro hbr;have HBR:=hid hbr;clear hbr hbq)
      |(go_at_call 31;(with_reducible refine(hw_swap HBR.out HP6.out HW6.out HM0.out HPP.out (by unfold IntKind.wrap;simp[IntKind.signed,IntKind.bits];omega)).mono ?_);rintro e w9 ⟨rfl,T9,R9,hb9,hp9⟩;have HB9:=hid hb9;have HP9:=hid hp9;clear hb9 hp9))
    have hwr:IntKind.i64.wrap (1+(P:Int))=1+(P:Int):=by unfold IntKind.wrap;simp[IntKind.signed,IntKind.bits];omega
    rw[hwr];clear hwr;go_wp2_with fail;have HPS:Hid (∃V,HwP R9 V M C S ring lazy m0 (0*C) (hwA l k 0) (hwB l k 0)):=⟨_,by rw[Nat.zero_mul];exact HP9.out.mono (hw_zero HHF.out).1 (hw_zero HHF.out).2⟩;have HCP:Hid (∀s:Nat,s<S->IntKind.i64.wrap (((s:Int)+1)*C)=(((s+1)*C:Nat):Int)/\(s+1)*C≤4096):=fun s hs=>by
     have h1:(s+1)*C≤S*C:=Nat.mul_le_mul_right C hs;have h2:(((s+1)*C:Nat):Int)=((s:Int)+1)*C:=by push_cast;rfl
     have h3:=(Zbe HPX.out.geoM).2.2.2;refine⟨?_,by omega⟩;rw[<-h2];unfold IntKind.wrap;simp[IntKind.signed,IntKind.bits];omega
    clear HB6 HB7 HB8 HBR HP6 HW6 HP9 HIB HRW HPP HBX HPX;go_loopw [15] (fun q wr=>∃s:Nat,s≤S/\q=O Z s/\∃T R V,Hb w3 wr T A R [pairBox pp A cp sp,gBox w.heap.size M C S]/\HwP R V M C S ring lazy m0 (s*C) (hwA l k s) (hwB l k s)) (fun q _=>S-(intOf q).toNat);case atStart=>
     obtain⟨V0,hv0⟩:=HPS.out;exact⟨0,by omega,rfl,_,_,V0,HB9.out,hv0⟩
    case round=>
     obtain⟨s,hs,rfl,T,R,V,hbx,hpx⟩:=hrel;have HBX:=hid hbx;have HPX:=hid hpx;have c2:=(HS.out _ _ _ hbx).2.2.2.2;have hlg:=(hbx.get 1 rfl).lt;clear hbx hpx HPS HB9;by_cases hsS:s<S
     ·have HSS:Hid (s<S):=hsS
      have hin:=hw_in HFW.out k s (by omega);have HIN:Hid (Within (hwA l k s+100000000000) (hwB l k s+50000)):=hin;have hkf:k≤l.length:=HHF.out;clear hin;go_upto_if 104 with fail
      go_cut []from 93 to 150 (fun wx=>∃T R V a b,Hb w3 wx T A R [pairBox pp A cp sp,gBox w.heap.size M C S]/\HwP R V M C S ring lazy m0 (s*C) a b/\a+2000≤hwA l k (s+1)/\b+16≤hwB l k (s+1));case first=>
       obtain⟨ks,hke⟩:∃ks,k+s=ks:=⟨_,rfl⟩;have hks1:IntKind.i64.wrap ((k:Int)+(s:Int))=(ks:Int):=by unfold IntKind.wrap;simp[IntKind.signed,IntKind.bits];omega
       by_cases hks:ks<l.length
       ·obtain⟨bb,off,rfl,hlt,hx⟩:=HVV.out.full (by omega)
        obtain⟨u4,x4,q4⟩:=hx ks hks;obtain⟨pa,pc,rfl⟩:=q4.shape;have hlt':bb<wr.heap.size:=Zd hlt HBX.out.hn.bel.size;have HQ4:=hid q4;have HNX:Hid (hwA l k s+1002000≤hwA l k (s+1)/\hwB l k s+8*(l[ks]'hks).length+20≤hwB l k (s+1)):=by
         subst hke;exact hw_more1 hks
        have HSS4:Hid (∀W T R,Hb w3 W T A R [pairBox pp A cp sp,gBox w.heap.size M C S]->W.cell? ⟨pp,2,none⟩=some (Zs (some ⟨A.q,0,none⟩))/\W.cell? ⟨bb,off+ks*5+4,none⟩=some (.slice pa (l[ks]'hks).length pc)):=fun W T R h=>⟨(h.get 0 rfl).cell 2,(h.hn.bel.cell (p:=⟨bb,off+ks*5+4,none⟩) hlt).trans x4⟩
        clear x4 q4 hx c2;generalize (l[ks]'hks)=us at*;have hlt2:(s:Int)<(l.length:Int)-(k:Int):=by omega
        have hk0:(0:Int)≤(ks:Int):=by omega
        have hk1:(ks:Int)<(l.length:Int):=by omega
        go_wp2;go_region_held3 (fun W=>W.cell? ⟨pp,2,none⟩=some (Zs (some ⟨A.q,0,none⟩))/\W.cell? ⟨bb,off+ks*5+4,none⟩=some (Zt pa us.length pc))
         (first|exact HSS4.out _ _ _ HBX.out|exact HSS4.out _ _ _ (Zbt HBX.out)|exact HSS4.out _ _ _ HBW.out)
         (first|(go_at_call 12;(with_reducible refine(hw_write (Zbt HBX.out) HPX.out ⟨by have:=HIN.out.a;omega,by have:=HIN.out.b;omega⟩ _ us HQ4.out).mono ?_);rintro e wv ⟨⟨cd,rfl⟩,TV,RV,VV,hbv,hpv⟩;have HBW:=hid hbv;have HPW:=hid hpv;clear hbv hpv))
        go_wp2_with fail;go_meet;exact⟨_,_,_,_,_,HBW.out,HPW.out,by have:=HNX.out;omega,by have:=HNX.out;omega⟩
       ·have hmo:=hw_more0 (l:=l) (hf:=k) (s:=s) (by omega)
        have hlt2:¬(s:Int)<(l.length:Int)-(k:Int):=by omega
        go_wp2_with fail;go_meet;exact⟨_,_,_,_,_,HBX.out,HPX.out,hmo.1,hmo.2⟩
      case rest=>
       obtain⟨T2,R2,V2,a2,b2,hb2,hp2,ha2,hbb2⟩:=hcut;have HB2:=hid hb2;have HP2:=hid hp2;have HA2:=hid (And.intro ha2 hbb2);have hin:=hw_in HFW.out k (s+1) (by omega);have HI2:Hid (Within (a2+1000) b2):=⟨by have:=hin.a;omega,by have:=hin.b;omega⟩;clear hb2 hp2 ha2 hbb2 hin c2 hlg HBX HPX;go_upto_region 29 with fail
       go_region_held3 (fun X=>X.cell? ⟨pp,0,none⟩=some (Zs (some ⟨A.b,0,none⟩))/\X.cell? ⟨pp,2,none⟩=some (Zs (some ⟨A.q,0,none⟩))/\X.cell? ⟨w.heap.size,0,none⟩=some (O Z M)/\X.cell? ⟨w.heap.size,1,none⟩=some (O Z C)/\X.cell? ⟨w.heap.size,2,none⟩=some (O Z S))
        (first
         |exact HS.out _ _ _ HB2.out
         |exact HS.out _ _ _ (Zbt HB2.out)
         |exact HS.out _ _ _ HBT.out
         |exact HS.out _ _ _ (Zbt HBT.out)
         |exact HS.out _ _ _ HBS.out)
        (first
         |(go_at_call 29;(with_reducible refine(hw_settle (Zbt HB2.out) HP2.out ⟨by have:=HI2.out.a;omega,by have:=HI2.out.b;omega⟩).mono ?_);rintro e wt ⟨rfl,TT,RT,hbt,hpt,hwt⟩;have HBT:=hid hbt;have HPT:=hid hpt;have HWT:=hid hwt;clear hbt hpt hwt)
         |(go_at_call 15;(with_reducible refine(hw_step HBT.out HPT.out HWT.out HI2.out HSS.out).mono ?_);rintro e ws ⟨rfl,TS,RS',hbs,hps,hws,hxs⟩;have HBS:=hid hbs;have HPS:=hid hps;have HXS:=hid hxs;clear hbs hps hws hxs))
       have hcp:=(HCP.out s HSS.out).1;have hs1:IntKind.i64.wrap ((s:Int)+1)=(s:Int)+1:=by unfold IntKind.wrap;simp[IntKind.signed,IntKind.bits];omega
       go_upto_region 31 with fail
       go_region_held3 (fun X=>X.cell? ⟨pp,0,none⟩=some (Zs (some ⟨A.b,0,none⟩))/\X.cell? ⟨pp,2,none⟩=some (Zs (some ⟨A.q,0,none⟩))/\X.cell? ⟨w.heap.size,0,none⟩=some (O Z M)/\X.cell? ⟨w.heap.size,1,none⟩=some (O Z C)/\X.cell? ⟨w.heap.size,2,none⟩=some (O Z S))
        (first
         |exact HS.out _ _ _ HBS.out
         |exact HS.out _ _ _ (Zbt HBS.out)
         |exact HS.out _ _ _ HBM.out)
        (first
         |(go_at_call 13;(with_reducible refine(hw_mark (Zbt HBS.out) HPS.out HXS.out (by first|rfl|(push_cast;rfl))).mono ?_);rintro e wm ⟨rfl,RM,hbm,hpm⟩;have HBM:=hid hbm;have HPM:=hid hpm;clear hbm hpm))
       go_wp2_with fail;go_roundw;case rel=>exact⟨s+1,HSS.out,by go_num,_,_,_,HBM.out,HPM.out.mono (by have:=HA2.out;omega) (by have:=HA2.out;omega)⟩
       case measure=>simp[intOf];have:=HSS.out;omega
     ·obtain rfl:S=s:=by omega
      have hin:=hw_in HFW.out k S (by omega);have HIN:Hid (Within (hwA l k S+100000000000) (hwB l k S+50000)):=hin;clear hin hsS hs;generalize hwA l k S=za at*;generalize hwB l k S=zb at*;have p2:=(HS.out _ _ _ HBX.out).2.1
      go_upto_region 36 with (first
       |(go_at_call 13;(with_reducible refine(hw_up HBX.out HPX.out).mono ?_);rintro e wu ⟨rfl,RU,hbu,hpu⟩;clear p2 c2 hlg;have HBU:=hid hbu;have HPU:=hid hpu;have p2:=(HS.out _ _ _ hbu).2.1;clear hbu hpu)
       |(go_at_call 23;(with_reducible refine(hc_empty HBU.out HPU.out ⟨by have:=HIN.out.a;omega,by have:=HIN.out.b;omega⟩).mono ?_);rintro e we ⟨rfl,TE,RE,hbe,hpe,hwe,hce⟩;clear p2;have HBE:=hid hbe;have HPE:=hid hpe;have HCE:=hid hce;have p0:=(HS.out _ _ _ hbe).1;clear hbe hpe hwe hce)
       |(go_at_call 37;(with_reducible refine(hc_cut HBE.out HPE.out HCE.out (by have:=HIN.out.b;omega)).mono ?_);rintro e wc ⟨rfl,RC,hbc,hpc⟩;clear p0;have HBC:=hid hbc;have HPC:=hid hpc;clear hbc hpc))
      obtain⟨D,hD⟩:∃D,allOf RC V=D:=⟨_,rfl⟩;have HD:=hid hD;have HDL:=hid (hc_len HPC.out hD);have HHA:=hid HBC.out.has;clear hD;go_region_held3 (fun X=>X.cell? ⟨pp,0,none⟩=some (.pointer (some ⟨A.b,0,none⟩))/\X.cell? ⟨pp,2,none⟩=some (.pointer (some ⟨A.q,0,none⟩))/\X.cell? ⟨w.heap.size,0,none⟩=some (.int .i64 M)/\X.cell? ⟨w.heap.size,1,none⟩=some (.int .i64 C)/\X.cell? ⟨w.heap.size,2,none⟩=some (.int .i64 S))
       (first
        |exact HS.out _ _ _ HBC.out
        |exact HS.out _ _ _ (Zbt HBC.out)
        |exact HS.out _ _ _ HBA.out)
       (first
        |(go_at_call 32;(with_reducible refine(hc_reads (Zbt HBC.out) HPC.out ⟨by have:=HIN.out.a;omega,by have:=HIN.out.b;omega⟩ HD.out).mono ?_);rintro e wa ⟨al,RA,rfl,ho,hba,hpa,hda,hza⟩;obtain⟨ala,alc,rfl⟩:=Zab ho.own;have HAL:=hid ho;have HBA:=hid hba;have HPA:=hid hpa;have HDA:=hid hda;clear ho hba hpa hda hza))
      go_wp2_with fail;go_loopw [18,19,20] (fun q _ _ wi=>∃j:Nat,j≤M/\q=O Z j/\∃R,Hb w3 wi TE A R [pairBox pp A cp sp,gBox w.heap.size M C S]/\HcP R V M C S ring lazy (za+1000+1044480+1044480*j) (zb+1)/\allOf R V=D/\OwnT wi TE wc.heap.size 5 (.slice ala (ucells D).length alc) (ucells D)) (fun q _ _ _=>M-(intOf q).toNat);case atStart=>exact⟨0,by omega,rfl,_,HBA.out,HPA.out,HDA.out,HAL.out⟩
      case round=>
       clear HBU HPU HBE HPE HCE HBC HPC HD HBA HPA HDA HAL HBX HPX;obtain⟨j,hj,rfl,R5,hb5,hp5,hd5,ho5⟩:=hrel;have HB5:=hid hb5;have HP5:=hid hp5;have HD5:=hid hd5;have HO5:=hid ho5;have p2:=(HS.out _ _ _ hb5).2.1;have c0:=(HS.out _ _ _ hb5).2.2.1;have hlg:=(hb5.get 1 rfl).lt;clear hb5 hp5 hd5 ho5;by_cases hjM:j<M
       ·have HJM:Hid (j<M):=hjM
        go_upto_region 41 with (go_at_call 13;(with_reducible refine(hc_down HB5.out HP5.out j HJM.out).mono ?_);rintro e w6 ⟨rfl,hb6,hs6⟩;clear p2 c0 hlg;have HB6:=hid hb6;have HO6:=hid (HO5.out.step hs6 HHA.out);clear hb6 hs6)
        go_region_held3 (fun X=>X.cell? ⟨pp,0,none⟩=some (Zs (some ⟨A.b,0,none⟩))/\X.cell? ⟨pp,2,none⟩=some (Zs (some ⟨A.q,0,none⟩))/\X.cell? ⟨w.heap.size,0,none⟩=some (O Z M)/\X.cell? ⟨w.heap.size,1,none⟩=some (O Z C)/\X.cell? ⟨w.heap.size,2,none⟩=some (O Z S))
         (first
          |exact HS.out _ _ _ HB6.out
          |exact HS.out _ _ _ (Zbt HB6.out)
          |exact HS.out _ _ _ HB7.out)
         (first
          |(go_at_call 32;(with_reducible refine(hc_reads2 (Zbt HB6.out) HP5.out ⟨by have:=HIN.out.a;omega,by have:=HIN.out.b;omega⟩ HD5.out).mono ?_);rintro e w7 ⟨bl,R7,rfl,ho,hb7,hp7,hd7,hs7⟩;obtain⟨bla,blc,rfl⟩:=Zab ho.own;have HV7:=hid ho;have HB7:=hid hb7;have HP7:=hid hp7;have HD7:=hid hd7;have HO7:=hid (HO6.out.drew.step hs7 HHA.out);clear ho hb7 hp7 hd7 hs7))
        go_wp2_with (first
         |(go_at_call 28;(with_reducible refine(Zxv HDL.out HO7.out HV7.out).mono ?_);rintro e w8 ⟨rfl,hb⟩;have HB8:=hid (HB7.out.below hb);have HO8:=hid (HO7.out.below hb);have p2:=(HS.out _ _ _ (HB7.out.below hb)).2.1;clear hb)
         |(go_at_call 13;(with_reducible refine(hc_back HB8.out HP7.out HJM.out).mono ?_);rintro e w9 ⟨rfl,hb9,hs9⟩;clear p2;have HB9:=hid hb9;have HO9:=hid (HO8.out.step hs9 HHA.out);clear hb9 hs9))
        exact⟨⟨j+1,HJM.out,by go_num,_,HB9.out,HP7.out.more (by omega) (Za _),HD7.out,HO9.out⟩,by simp[intOf];have:=HJM.out;omega⟩
       ·obtain rfl:M=j:=by omega
        go_wp2_with fail;go_ret;exact⟨rfl,HB3.out.trans (HB5.out.hn.bel.mono HB3.out.size)⟩
section
open Go.RowKit Go.ChangeShapes Go.WideShapes Go.ChangeAt Go.Deep
theorem healWhole_walk{H:Type}(w:World)(enc:TypeId×Value->H)(base:Nat)(v:Value)(d:DataW H)(ps:List MemPlace)(hok:Value.okWide Zw w .any base 23 v)(h:DataW.Trod enc Zw w 0 (fun _=>true) true 23 v d ps)
  (ring:Int) (_:(Lit.int .i64 ring).wf=true) (lazy:Bool) (a1:Int) (_:(Lit.int .i64 a1).wf=true)
  (enc':TypeId×Value->H) (base':Nat) (v':Value) (d':DataW H) (ps':List MemPlace) (hok':Value.okWide Zw w .any base' 24 v') (h':DataW.Trod enc' Zw w 0 (fun _=>true) true 24 v' d' ps') (hw':∀n∈d'.weights Zw 24,n≤reachBytes):
  Calls Zw 6 #[v,O Z ring,.bool lazy,O Z a1,v'] w fun e w'=>e=Zu (.bool true)/\Below w.heap.size w w':=by
 obtain⟨m,c,s,rfl⟩:=Zns hok h;obtain⟨l,hv⟩:=Zly hok' h' hw';cases hm:mayIs m c s ring
 ·exact healWhole_no m c s ring lazy a1 v' l w hv hm
 ·obtain⟨M,C,S,r,rfl,rfl,rfl,rfl,hg,h5,h6⟩:=Zvz hm
  exact healWhole_go M C S r lazy a1 v' l w hv hg h5 h6
end
end Go.Proofs.YtljjjpakcbcioaaGreat
