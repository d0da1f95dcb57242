
/- Two texts in one. -/
import Derived.Test.YtljjjpakcbcioaaGreatHl1
import Derived.Test.YtljjjpakcbcioaaGreatHl2
import Derived.Deep.Onto
import Derived.Deep.CutRange
import Derived.Deep.CutBlock
import Derived.Deep.RegionHeld3
import Derived.ChangeArms
import Derived.Deep.Grids
import Derived.Deep.MidRow
import Derived.Deep.WholeRow
import Derived.OneCell
import Derived.OwnWalk
import Derived.WalkKit
import Derived.WalkSmall
set_option linter.unusedVariables false
set_option maxRecDepth 100000
set_option maxHeartbeats 32000000
namespace Go.Proofs.YtljjjpakcbcioaaGreat
open Value renaming int→O,pointer→Zs
open IntKind renaming i64→Z
open Ending renaming returned→Zu
open Go.Proofs.Tryz renaming prog→Zw
open Go.RowKit
open Lib(hid)
variable {A:Adr} {cs:Array Value} {s s':BaySt} {lazy:Bool} {x y z:Int} {L:List (Nat×Array Value×TypeId)} {D l:List UInt8} {vs:List Value} {B C M P S a a' b b' g j k m n' q ring:Nat} {T:Nat->Nat} {V:Nat->Nat->Sec} {o:Obj} {lg:Option Nat} {R:RS} {t:TypeId} {u v v' vw:Value} {W X w w0:World}
structure Hn (w0 W:World) (T:Nat->Nat) (A:Adr) (R:RS):Prop where
 rw:∃lg vw X,RwIn W T A R lg vw X
 old:∀q,q<w0.heap.size->T q=0/\¬A.has q
 bel:Below w0.heap.size w0 W
section
variable {w0 W W':World} {T T':Nat->Nat} {A:Adr} {R R':RS} {V:Nat->Nat->Sec}
theorem LAt.hn(h:LAt w0 W T A R V):Hn w0 W T A R:=⟨h.rw,h.old,h.bel⟩
theorem Hn.lat(h:Hn w0 W T A R)(g:Good R V)(i:R.lazy=true\/R.wait= []):LAt w0 W T A R V:=⟨h.rw,g,i,h.old,h.bel⟩
theorem Hn.below(h:Hn w0 W T A R)(hb:Below W.heap.size W W'):Hn w0 W' T A R:=by
 obtain⟨lg,vw,X,hr⟩:=h.rw;exact⟨⟨lg,vw,X,hr.below hb⟩,h.old,h.bel.trans (hb.mono h.bel.size)⟩
theorem Hn.next(h:Hn w0 W T A R)(s:Stp W T A W' T'):(∀q,q<w0.heap.size->T' q=0/\¬A.has q)/\Below w0.heap.size w0 W':=by
 have hs:=h.bel.size;refine⟨fun q hq=>⟨(s.tags q (by omega)).trans (h.old q hq).1,(h.old q hq).2⟩,h.bel.trans (s.chg.below fun q hq=>⟨by omega,fun e=>e.elim (fun e=>e (h.old q hq).1) (h.old q hq).2⟩)⟩
theorem Hn.keep(h:Hn w0 W T A R)(s:Stp W T A W' T')(ha:At W g cs t)(ht:T g=0)(h1:101≠t)(h2:3≠t)(h3:133≠t)(h4:203≠t):At W' g cs t/\T' g=0:=by
 obtain⟨lg,vw,X,hr⟩:=h.rw;exact⟨ha.mod s.chg fun e=>e.elim (fun e=>e ht) (hr.offAt ha h1 h2 h3 h4),(s.tags g ha.lt).trans ht⟩
theorem Hn.virg(h:Hn w0 W T A R)(q:Nat)(hq:W.heap.size≤q):T q=0:=by
 obtain⟨lg,vw,X,hr⟩:=h.rw;exact Zae hr.bay q hq
theorem Hn.turn(h:Hn w0 W T A R)(hp:BayPost W T A.b s' W'):∃T',Hn w0 W' T' A {R with s:=s'}/\Stp W T A W' T':=by
 obtain⟨lg,vw,X,hr⟩:=h.rw;obtain⟨T',k1,k2,k3⟩:=hp;have hst:Stp W T A W' T':=⟨k2,k3.mono fun q e=>.inl e⟩;obtain⟨k4,k5⟩:=h.next hst;exact⟨T',⟨⟨lg,vw,X,hr.turn k1 k2 k3⟩,k4,k5⟩,hst⟩
theorem Zw6(h:Hn w0 W T A R)(m:Nat)(hm:m<R.s.n)(x:Dev)(hx:R.s.pos (m*3)=some x)(hsm:R.s.small 1000000):
  Calls Zw 30 #[Zs (some ⟨A.b,0,none⟩),O Z m] W fun e w'=>e=Zu (.int .u16 0)/\Hn w0 w' T A {R with s:=R.s.lose m}/\Stp W T A w' T:=by
 obtain⟨lg,vw,X,hr⟩:=h.rw;obtain⟨gs,ptr,tg,dp,hin⟩:=hr.bay;refine(Zkg hin m hm x hx (hsm (m*3) (by omega) x hx)).mono ?_;rintro e w' ⟨rfl,h1,h2⟩;have h1':BayAt w' T A.b (R.s.lose m):=by
  rw[<-Zsb hx];exact⟨gs,ptr,tg,dp,h1⟩
 have hst:Stp W T A w' T:=⟨fun _ _=>rfl,h2.mono fun q e=>.inl e⟩;obtain⟨k4,k5⟩:=h.next hst;exact⟨rfl,⟨⟨lg,vw,X,hr.turn h1' (fun _ _=>rfl) h2⟩,k4,k5⟩,hst⟩
theorem Zw3(h:Hn w0 W T A R)(m n:Nat)(hm:m<R.s.n){x:Dev}(hx:R.s.pos (m*3)=some x)(hf:x.d.failed=true)(h2:R.s.pos (m*3+2)=none)(hn:0<n)(hn2:n≤8192):
  Calls Zw 31 #[Zs (some ⟨A.b,0,none⟩),O Z m,O Z n] W fun e w'=>e=Zu (.int .u16 0)/\∃T',Hn w0 w' T' A {R with s:=R.s.laid (m*3) ⟨freshDsk n,false,0⟩}/\Stp W T A w' T':=by
 obtain⟨lg,vw,X,hr⟩:=h.rw;refine(Zt3 hr.bay m n hm hx hf h2 hn hn2).mono ?_;rintro e w' ⟨rfl,hp⟩;obtain⟨T',k1,k2⟩:=h.turn hp;exact⟨rfl,T',k1,k2⟩
theorem Zvf(h:Hn w0 W T A R)(m:Nat)(dn:Bool)(hm:m<R.M):
  Calls Zw 13 #[Zs (some ⟨A.q,0,none⟩),O Z m,.bool dn,O Z 0] W fun e w'=>e=Zu (.tuple #[])/\Hn w0 w' T A (R.marked m dn)/\Stp W T A w' T:=by
 obtain⟨lg,vw,X,hr⟩:=h.rw;refine(Zs9 hr m dn hm).mono ?_;rintro e w' ⟨rfl,h1,h2⟩;have hst:Stp W T A w' T:=⟨fun _ _=>rfl,h2.mono fun q e=>.inr e⟩;obtain⟨k4,k5⟩:=h.next hst;exact⟨rfl,⟨⟨lg,vw,X,h1⟩,k4,k5⟩,hst⟩
theorem Zg1(h:Hn w0 W T A R)(h0:R.s.cnt 0=x)(h1:R.s.cnt 1=y)(h2:R.s.cnt 2=z):
  Calls Zw 14 #[Zs (some ⟨A.b,0,none⟩)] W fun e w'=>e=Zu (.agg #[O Z x,O Z y,O Z z])/\Below W.heap.size W w':=by
 obtain⟨lg,vw,X,hr⟩:=h.rw;have:=Zp2 hr.bay;unfold cntVal at this;rw[h0,h1,h2]at this;exact this
theorem Zvb(h:LAt w0 W T A R V)(hw:R.wait= [])(m s:Nat)(hm:m<R.M)(hs:s<R.S)(hd:∀k,k<R.C->R.dn m (s*R.C+k)=true)(hf:Fit R.s (fun j=>R.G j\/j=m) R.szs)(hc0:R.s.cnt 0≤990000000000)(hc1:R.s.cnt 1≤990000000000)(hc2:R.s.cnt 2≤990000000000)(hsm:R.s.small 900000):
  Calls Zw 15 #[Zs (some ⟨A.b,0,none⟩),.agg #[O Z R.M,O Z R.C,O Z R.S],Zs (some ⟨A.q,0,none⟩),O Z m,O Z s] W fun e w'=>e=Zu (.agg #[O Z 0,.int .u16 0])/\∃T' s',LAt w0 w' T' A {R with s:=s'} V/\Stp W T A w' T'/\Healed R V m (s*R.C) R.C s':=by
 obtain⟨lg,vw,X,hr⟩:=h.rw;refine(Ztc hr h.good hw m s hm hs hd hf hc0 hc1 hc2 hsm).mono ?_;rintro e w' ⟨rfl,T',s',k1,k2,k3,k4⟩;have hst:Stp W T A w' T':=⟨k3,k4.mono fun q e=>.inl e⟩;obtain⟨k5,k6⟩:=h.next hst;exact⟨rfl,T',s',⟨⟨lg,vw,X,k1⟩,k2.good h.good hd,h.idle,k5,k6⟩,hst,k2⟩
end
theorem Zrq{n:Nat}(hn:0<n):CalmDev ⟨freshDsk n,false,0⟩ n:=by
 refine⟨rfl,rfl,by simp[freshDsk],fun s hs=> ?_,fun y hy=>(by cases hy),fun y hy=>(by cases hy)⟩;have:s∈List.replicate n zsec:=hs;rw[List.mem_replicate]at this;rw[this.2];simp[zsec]
theorem Zs4(s:BaySt)(m:Nat)(y:Dev):(s.lose m).laid (m*3) y=s.laid (m*3) y:=by
 unfold BaySt.lose BaySt.laid;congr 1;funext q;by_cases e:q=m*3
 ·rw[Zf e,Zf e]
 ·rw[Ze e,Ze e]
  exact Ze e
abbrev RS.anew(R:RS)(m:Nat):RS:={R.marked m true with s:=R.s.laid (m*3) ⟨freshDsk (1+R.S*R.C),false,0⟩}
theorem Good.allUp(h:Good R V)(hf:R.fr=fun _=> -1):Fit R.s (fun _=>True) R.szs:=by
 have hd:∀m r,R.dn m r=false:=fun m r=>by unfold RS.dn;rw[hf];simp
 refine⟨h.fit.dark,h.fit.trip,fun j hj _=>h.fit.dev j hj ?_⟩;have:=(Zbe h.geo).2.2.1;have hn:=h.n;by_cases e:j=R.M
 ·exact .inl e
 ·exact .inr ⟨by omega,0,this,hd j 0⟩
theorem Good.anew(h:Good R V)(hf:R.fr=fun _=> -1)(hm:m<R.M):Good (R.anew m) V/\Fit (R.anew m).s (fun _=>True) (R.anew m).szs/\(∀r,(R.anew m).dn m r=true):=by
 have ha:=h.allUp hf;have hdn:∀j r,(R.marked m true).dn j r=decide (j=m):=fun j r=>by
  unfold RS.dn RS.marked;rw[hf];by_cases e:j=m
  ·simp[e]
  ·simp[e]
 have hfit:Fit (R.s.laid (m*3) ⟨freshDsk (1+R.S*R.C),false,0⟩) (fun _=>True) R.szs:=ha.laid m (by
  have:R.szs m=1+R.S*R.C:=by unfold RS.szs;rw[Zf hm]
  rw[this]
  exact Zrq (by omega))
 refine⟨(h.mark hf m).aside rfl (hfit.sub fun _ _=>trivial) fun j r hj hr hd=> ?_,hfit,fun r=>(hdn m r).trans (by simp)⟩;rw[hdn j r,decide_eq_false_iff_not]at hd;exact Zcn (Ze (by omega)) _
theorem Zrc{G:Nat->Prop}{sz:Nat->Nat}(hf:Fit s G sz)(hm:m<s.n)(hg:G m)(hd:s.dry m):∃L:List Sec,s.image (m:Int)=(0,some L)/\L.length=sz m/\(∀x∈L,x.length=128)/\∀z,z<sz m->L[z]?=some (s.sec m z):=by
 obtain⟨x,h1,h2⟩:=hd;obtain⟨y,e1,h3⟩:=hf.dev m hm hg;have hxy:y=x:=Option.some.inj (e1.symm.trans h1);subst hxy;refine⟨y.d.last,?_,h3.len,h3.secs,fun z hz=> ?_⟩
 ·rw[Zpl hm h1,Ze (by rw[h3.failed];simp)]
 ·rw[Zdt h1]
  unfold Dsk.cur;rw[h2];have hl:z<y.d.last.length:=by rw[h3.len];exact hz
  show _=some (y.d.last.getD z zsec)
  rw[Zh hl,Zi,Zh hl];rfl
theorem Zvg(h:Hn w0 W T A R)(m:Nat){L:List Sec}(hL:R.s.image (m:Int)=(0,some L)):
  Calls Zw 34 #[Zs (some ⟨A.b,0,none⟩),O Z m] W fun e w'=>∃v,e=Zu (.tuple #[v,.int .u16 0])/\Below W.heap.size W w'/\w'.ownsRow W.heap.size 5 1 v (128*L.length) (ucells L.flatten):=by
 obtain⟨lg,vw,X,hr⟩:=h.rw;have:=Ztg hr.bay (m:Int);rw[hL]at this;refine this.mono ?_;rintro e w' ⟨v,rfl,h1,h2,-⟩;obtain⟨-,k⟩:=h2 L rfl;rw[Zci,Nat.mul_comm]at k;exact⟨v,rfl,h1,k⟩
open Go.RowKit
structure Hb (w0 W:World) (T:Nat->Nat) (A:Adr) (R:RS) (L:List (Nat×Array Value×TypeId)):Prop where
 hn:Hn w0 W T A R
 box:∀x∈L,At W x.1 x.2.1 x.2.2/\T x.1=0/\101≠x.2.2/\3≠x.2.2/\133≠x.2.2/\203≠x.2.2
section
variable {w0 W W':World} {T T':Nat->Nat} {A:Adr} {R R':RS} {V:Nat->Nat->Sec} {L:List (Nat×Array Value×TypeId)}
theorem Hb.below(h:Hb w0 W T A R L)(hb:Below W.heap.size W W'):Hb w0 W' T A R L:=
 ⟨h.hn.below hb,fun x hx=>⟨(h.box x hx).1.below hb (h.box x hx).1.lt,(h.box x hx).2⟩⟩
theorem Hb.step(h:Hb w0 W T A R L)(k:Hn w0 W' T' A R')(s:Stp W T A W' T'):Hb w0 W' T' A R' L:=
 ⟨k,fun x hx=>by
  obtain⟨h1,h2,h3,h4,h5,h6⟩:=h.box x hx
  obtain⟨k1,k2⟩:=h.hn.keep s h1 h2 h3 h4 h5 h6
  exact⟨k1,k2,h3,h4,h5,h6⟩⟩
theorem Hb.push(h:Hb w0 W T A R L)(cs:Array Value)(t:TypeId)(h1:101≠t)(h2:3≠t)(h3:133≠t)(h4:203≠t):Hb w0 (W.alloc (.cells cs t)) T A R ((W.heap.size,cs,t)::L):=by
 have hb:=h.below ((Zb W.heap.size W).alloc (Za _) (.cells cs t));refine⟨hb.hn,fun x hx=> ?_⟩;rcases List.mem_cons.1 hx with e|e
 ·subst e
  exact⟨At.new _ _ _,h.hn.virg _ (Za _),h1,h2,h3,h4⟩
 ·exact hb.box x e
theorem Hb.get(h:Hb w0 W T A R L)(i:Nat)(hi:L[i]?=some (g,cs,t)):At W g cs t:=(h.box _ (List.mem_of_getElem? hi)).1
theorem Hb.lat(h:Hb w0 W T A R L)(g:Good R V)(i:R.lazy=true\/R.wait= []):LAt w0 W T A R V:=h.hn.lat g i
theorem Zow(h:Hb w0 W T A R L)(hb:Below W.heap.size W W'):Hb w0 W' T A R L:=h.below hb
theorem Zbc(h:Hb w0 W T A R L):Hb w0 (W.alloc o) T A R L:=h.below ((Zb _ _).alloc (Za _) _)
theorem Zbt(h:Hb w0 W T A R L):Hb w0 W.drew T A R L:=h.below (Zb _ _).drew
theorem Zds{n:Nat}(hs:n=W.heap.size)(h:Hb w0 W T A R L):Hb w0 (W.alloc (.cells #[O Z 0,.int .u16 0] 33)) T A R ((n,#[O Z 0,.int .u16 0],33)::L):=by
 subst hs;exact h.push _ _ (by decide) (by decide) (by decide) (by decide)
theorem Zks(h:g=X.heap.size):At (X.alloc (.cells cs t)) g cs t:=by rw[h];exact At.new _ _ _
theorem Zcc(h:At X g cs t):At (X.alloc o) g cs t:=h.alloc o
theorem Hb.zeros{n:Nat}(h:Hb w0 W T A R ((n,#[O Z 0,.int .u16 0],33)::L))(hw:w0.heap.size≤n)(ht:∀x∈L,x.1≠n):Hb w0 ((W.setCell ⟨n,0,none⟩ (O Z 0)).setCell ⟨n,1,none⟩ (.int .u16 0)) T A R ((n,#[O Z 0,.int .u16 0],33)::L):=by
 obtain⟨b1,b2,b3⟩:=h.box _ List.mem_cons_self;have hst:Chg (fun p=>p=n) W ((W.setCell ⟨n,0,none⟩ (O Z 0)).setCell ⟨n,1,none⟩ (.int .u16 0)):=Zk (S:=fun p=>p=n) (Zk (S:=fun p=>p=n) (Zl _ _) ⟨n,0,none⟩ (.inl rfl) _) ⟨n,1,none⟩ (.inl rfl) _;obtain⟨lg,vw,X,hr⟩:=h.hn.rw;refine⟨⟨⟨lg,vw,X,hr.box b1 b2 hst⟩,h.hn.old,h.hn.bel.trans (hst.below fun q hq=>⟨Zd hq h.hn.bel.size,fun e=>by omega⟩)⟩,fun x hx=> ?_⟩;rcases List.mem_cons.1 hx with e|e
 ·subst e
  exact⟨(b1.set 0 (O Z 0)).set 1 (.int .u16 0),b2,b3⟩
 ·obtain⟨k1,k2⟩:=h.box x hx
  exact⟨k1.mod hst (ht x e),k2⟩
end
section
variable {w0 W:World} {T:Nat->Nat} {A:Adr} {R:RS} {V:Nat->Nat->Sec} {L:List (Nat×Array Value×TypeId)}
theorem Zw7(hk:KnownRes R):1+R.S*R.C=3:=by rw[hk.S,hk.C]
theorem Zu4(hk:KnownRes R):R.s.small 1000000:=fun i hi x hx=>Zc (hk.small i hi x hx) (by omega)
theorem Zvq(h:Hb w0 W T A (R.marked 0 true) L)(hk:KnownRes R)(hg:Good R V):
  Calls Zw 30 #[Zs (some ⟨A.b,0,none⟩),O Z 0] W fun e w'=>e=Zu (.int .u16 0)/\Hb w0 w' T A {R.marked 0 true with s:=R.s.lose 0} L:=by
 have hn:0<R.s.n:=by rw[hg.n];omega
 obtain⟨x,hx,-⟩:=(hg.allUp hk.fr).dev 0 hn trivial;have hsm:=Zu4 hk;refine(Zw6 (R:=R.marked 0 true) h.hn 0 hn x hx hsm).mono ?_;rintro e w' ⟨rfl,k1,k2⟩;exact⟨rfl,h.step k1 k2⟩
theorem Zws(h:Hb w0 W T A {R.marked 0 true with s:=R.s.lose 0} L)(hk:KnownRes R)(hg:Good R V)(ha:∀q,q%3≠0->R.s.pos q=none):
  Calls Zw 31 #[Zs (some ⟨A.b,0,none⟩),O Z 0,O Z 3] W fun e w'=>e=Zu (.int .u16 0)/\∃T',Hb w0 w' T' A (R.anew 0) L:=by
 have hn:0<R.s.n:=by rw[hg.n];omega
 obtain⟨x,hx,-⟩:=(hg.allUp hk.fr).dev 0 hn trivial;have hx':(R.s.lose 0).pos (0*3)=some ⟨⟨x.d.last,[],true⟩,x.worn,x.left⟩:=by
  unfold BaySt.lose;show(if 0*3=0*3 then (R.s.pos (0*3)).map (fun x=>(⟨⟨x.d.last,[],true⟩,x.worn,x.left⟩:Dev))else R.s.pos (0*3))=_
  rw[Zf rfl,hx];rfl
 have h2:(R.s.lose 0).pos (0*3+2)=none:=by
  show(if 0*3+2=0*3 then (R.s.pos (0*3+2)).map (fun x=>(⟨⟨x.d.last,[],true⟩,x.worn,x.left⟩:Dev))else R.s.pos (0*3+2))=_
  rw[Ze (by omega)];exact ha _ (by omega)
 have hl:=Zw7 hk;have k:=Zw3 (R:={R.marked 0 true with s:=R.s.lose 0}) h.hn 0 (1+R.S*R.C) hn hx' rfl h2 (by omega) (by omega);have e3:((1+R.S*R.C:Nat):Int)=3:=by rw[hl];rfl
 rw[e3]at k;refine k.mono ?_;rintro e w' ⟨rfl,T',k1,k2⟩;have e:({({R.marked 0 true with s:=R.s.lose 0}:RS)with s:=({R.marked 0 true with s:=R.s.lose 0}:RS).s.laid (0*3) ⟨freshDsk (1+R.S*R.C),false,0⟩}:RS)=R.anew 0:=by
  show({R.marked 0 true with s:=(R.s.lose 0).laid (0*3) ⟨freshDsk (1+R.S*R.C),false,0⟩}:RS)=_
  rw[Zs4]
 rw[e]at k1;exact⟨rfl,T',h.step k1 k2⟩
theorem Zso(h:Hb w0 W T A (R.anew 0) L)(hk:KnownRes R)(hg:Good R V):
  Calls Zw 15 #[Zs (some ⟨A.b,0,none⟩),.agg #[O Z 3,O Z 1,O Z 2],Zs (some ⟨A.q,0,none⟩),O Z 0,O Z 0] W fun e w'=>e=Zu (.agg #[O Z 0,.int .u16 0])/\∃T' s',Hb w0 w' T' A {R.anew 0 with s:=s'} L/\Healed (R.anew 0) V 0 0 1 s':=by
 obtain⟨g1,g2,g3⟩:=hg.anew hk.fr (m:=0) (by rw[hk.M];omega);have hM:(R.anew 0).M=3:=hk.M;have hC:(R.anew 0).C=1:=hk.C;have hS:(R.anew 0).S=2:=hk.S
 have k:=Zvb (h.lat g1 (.inr hk.wait)) hk.wait 0 0 (by rw[hM];omega) (by rw[hS];omega) (fun k _=>g3 _) (g2.sub fun _ _=>trivial) (by show R.s.cnt 0≤_;rw[hk.c0];omega) (by show R.s.cnt 1≤_;rw[hk.c1];omega) (by show R.s.cnt 2≤_;rw[hk.c2];omega) (fun i hi x hx=>by
  change (if i=0*3 then some _ else R.s.pos i)=some x at hx
  by_cases e:i=0*3
  ·rw[Zf e]at hx
   simp only [Zg]at hx
   subst hx
   exact Nat.zero_le _
  ·rw[Ze e]at hx
   exact Zc (hk.small i hi x hx) (by omega))
 have e0:(.agg #[O Z (R.anew 0).M,O Z (R.anew 0).C,O Z (R.anew 0).S]:Value)=.agg #[O Z 3,O Z 1,O Z 2]:=by
  rw[hM,hC,hS];rfl
 rw[e0]at k;refine k.mono ?_;rintro e w' ⟨rfl,T',s',k1,k2,k3⟩;rw[hC]at k3;exact⟨rfl,T',s',h.step k1.hn k2,k3⟩
theorem Zuw(h:Hb w0 W T A {R.anew 0 with s:=s'} L)(hs:Healed (R.anew 0) V 0 0 1 s')(hk:KnownRes R)(hg:Good R V)(hb:blkOf 3 1 V 0=knownS):
  Calls Zw 34 #[Zs (some ⟨A.b,0,none⟩),O Z 0] W fun e w'=>∃g cap,e=Zu (.tuple #[.slice (some ⟨g,0,none⟩) 384 cap,.int .u16 0])/\Below W.heap.size W w'/\w'.cell? ⟨g,135,none⟩=some (.int .u8 5)/\g<w'.heap.size:=by
 have hM:(R.anew 0).M=3:=hk.M;have hC:(R.anew 0).C=1:=hk.C;have hS:(R.anew 0).S=2:=hk.S;have hz:(R.anew 0).szs 0=3:=by
  unfold RS.szs;rw[hM,hC,hS];rfl
 obtain⟨Li,h1,h2,h3,h4⟩:=Zrc hs.fit (m:=0) (by rw[hs.n];show 0<R.s.n;rw[hg.n];omega) (.inr rfl) hs.dry;rw[hz]at h2 h4;have hv:Li[1]?=some knownS:=by
  rw[h4 1 (by omega),hs.sec 1 (by rw[hC,hS];omega),Zf (by omega),<-hb];rfl
 refine(Zvg h.hn 0 h1).mono ?_;rintro e w' ⟨v,rfl,k1,k2⟩;rw[h2]at k2;obtain⟨g,cap,rfl,-,hlt⟩:=Zas k2 (by omega);refine⟨g,cap,rfl,k1,?_,hlt⟩;have hb1:=Zqs h3 (i:=1) (j:=7) (by omega) (by omega);have hb2:Li[1]'(by omega)=knownS:=by
  have:=hv;rw[Zh (by omega)]at this;exact Option.some.inj this
 rw[hb2]at hb1;have hb3:(ucells Li.flatten)[135]?=some (.int .u8 5):=by
  unfold ucells;rw[List.getElem?_map,show(135:Nat)=128*1+7 by omega,hb1];rfl
 have:=k2.cells (g:=g) rfl 135 _ hb3;rw[Go.WideShapes.add_plain,Nat.zero_add]at this;exact this
end
structure KnR (R:RS) (V:Nat->Nat->Sec):Prop where
 res:KnownRes R
 good:Good R V
 aside:∀q,q%3≠0->R.s.pos q=none
 blk:blkOf 3 1 V 0=knownS
abbrev knR0:RS:=made0R 3 1 2 10 false
theorem Zgx(h:Hb w0 W T A knR0 L){p:Nat}(hp:At W p #[O Z 0,.slice (some ⟨g,0,none⟩) 128 128] 53)(hgb:At W g (ucells knownS).toArray 5):
  Calls Zw 12 #[Zs (some ⟨A.q,0,none⟩),.slice (some ⟨p,0,none⟩) 1 1] W fun e w'=>e=Zu (.agg #[O Z 0,.int .u16 0])/\∃T' R V,Hb w0 w' T' A R L/\KnR R V:=by
 have hmade:=Zey (M:=3) (C:=1) (S:=2) (ring:=10) (by omega) (by omega) (by omega);have hgood:Good knR0 zeroV:=Zfb (by decide) (by omega) (by omega) hmade;have hh:=h.lat hgood (.inr rfl);have hasd:=hmade.aside;have heq:knR0=kR (formed (rBay 3 (2*1) 10) 3 10 1):=rfl;rw[heq]at h hh;generalize formed (rBay 3 (2*1) 10) 3 10 1=s0 at*;obtain⟨lg,vw,X,hr⟩:=hh.rw;have hpW:∀W',Chg (fun q=>q=A.q) W W'->PutSeg W' (.slice (some ⟨p,0,none⟩) 1 1) (kU knownS):=fun W' hc=>Zuh (hp.mod hc (Zaw hp hr.rw (by decide))) (hgb.mod hc (Zaw hgb hr.rw (by decide))) Zb6
 have hfit:2*mostIn (kR s0).M ((kR s0).S*(kR s0).C) (tabAll (kR s0).M (kR s0).C (kU knownS))+1≤(kR s0).size:=by
  have:=Zu9 knownS;show 2*mostIn 3 (2*1) (tabAll 3 1 (kU knownS))+1≤10
  rw[this];omega
 refine(Zjv hr hh.good _ (kU knownS) hpW (Zgz knownS Zb6) (by simp[kU]) hfit (by show 1≤1000000000000;omega) ?_ ?_ ?_ ?_).mono ?_
 ·show s0.cnt 0≤_;rw[hmade.c0];omega
 ·show s0.cnt 1≤_;rw[hmade.c1];omega
 ·show s0.cnt 2≤_;rw[hmade.c2];omega
 ·exact hmade.small.mono (by omega)
 ·rintro e w' ⟨rfl,ps,R1,R4,R',sec,lg',vw',X',hbt,T',k1,k2,k3⟩
  have hst:Stp W T A w' T':=⟨k2,k3⟩;obtain⟨k4,k5⟩:=hh.next hst;have hres:=hbt.res hh.good (Zgz knownS Zb6) (by simp[kU]) hfit (by show 1≤1000000000000;omega);exact⟨rfl,T',R',_,h.step ⟨⟨lg',vw',X',k1⟩,k4,k5⟩ hst,Zsd hmade Zb6 hbt,hres.good,fun q hq=>(hres.base.aside q hq).trans (hasd q hq),Zph zeroV s0 hh.good⟩
theorem Zvp(h:Hb w0 W T A R L)(hk:KnownRes R):
  Calls Zw 13 #[Zs (some ⟨A.q,0,none⟩),O Z 0,.bool true,O Z 0] W fun e w'=>e=Zu (.tuple #[])/\Hb w0 w' T A (R.marked 0 true) L:=by
 refine(Zvf h.hn 0 true (by rw[hk.M];omega)).mono ?_;rintro e w' ⟨rfl,k1,k2⟩;exact⟨rfl,h.step k1 k2⟩
theorem Zqy(h:Hb w0 W T A (R.anew 0) L)(hk:KnownRes R):
  Calls Zw 14 #[Zs (some ⟨A.b,0,none⟩)] W fun e w'=>e=Zu (.agg #[O Z 1,O Z 18,O Z 3])/\Below W.heap.size W w':=
 Zg1 h.hn hk.c0 hk.c1 hk.c2
theorem Zqa(h:Hb w0 W T A {R.anew 0 with s:=s'} L)(hs:Healed (R.anew 0) V 0 0 1 s')(hk:KnownRes R):
  Calls Zw 14 #[Zs (some ⟨A.b,0,none⟩)] W fun e w'=>e=Zu (.agg #[O Z 3,O Z 19,O Z 4])/\Below W.heap.size W w':=by
 have hM:(R.anew 0).M=3:=hk.M;have e0:(R.anew 0).s.cnt 0=1:=hk.c0;have e1:(R.anew 0).s.cnt 1=18:=hk.c1;have e2:(R.anew 0).s.cnt 2=3:=hk.c2;exact Zg1 h.hn (by show s'.cnt 0=3;rw[hs.c0,e0,hM];rfl) (by show s'.cnt 1=19;rw[hs.c1,e1];rfl) (by show s'.cnt 2=4;rw[hs.c2,e2];rfl)
open Go.RowKit
theorem Zw5{P Q:Prop}(h:P)(k:P->Q):Q:=k h
abbrev geoBox(g:Nat):Nat×Array Value×TypeId:=(g,#[O Z 3,O Z 1,O Z 2],23)
abbrev trBox(g:Nat):Nat×Array Value×TypeId:=(g,#[O Z 0,.int .u16 0],33)
abbrev cntBox(g:Nat)(x y z:Int):Nat×Array Value×TypeId:=(g,#[O Z x,O Z y,O Z z],46)
abbrev pairBox(g:Nat)(A:Adr)(cp sp:Nat):Nat×Array Value×TypeId:=(g,pairCells A cp sp,39)
theorem Zl0(W:World):Calls Zw 9 #[] W fun e w'=>e=Zu (.bool true)/\Below W.heap.size W w':=by
 have hg:geoIs ((3:Nat):Int) ((1:Nat):Int) ((2:Nat):Int)=true:=by decide
 have hb1:Below W.heap.size W (W.alloc (.cells #[O Z 3,O Z 1,O Z 2] 23)):=(Zb _ _).alloc (Za _) _;have ha1:At (W.alloc (.cells #[O Z 3,O Z 1,O Z 2] 23)) W.heap.size #[O Z 3,O Z 1,O Z 2] 23:=At.new _ _ _;have HMA:Hid (Calls Zw 11 #[.agg #[O Z 3,O Z 1,O Z 2],O Z 10,.bool false] (W.alloc (.cells #[O Z 3,O Z 1,O Z 2] 23)) fun e w'=>∃T A pp cp sp,e=Zu (Zs (some ⟨pp,0,none⟩))/\Hb (W.alloc (.cells #[O Z 3,O Z 1,O Z 2] 23)) w' T A knR0 [pairBox pp A cp sp,geoBox W.heap.size]):=by
  refine(Zom 3 1 2 10 false _ hg (by omega) (by omega)).mono ?_;rintro e w' ⟨T,A,pp,cp,sp,rfl,k1,k2,k3,k4⟩;refine⟨T,A,pp,cp,sp,rfl,k1.hn,fun x hx=> ?_⟩;rcases List.mem_cons.1 hx with e|e
  ·subst e
   exact⟨k2,k3,(by decide:(101:TypeId)≠39),(by decide:(3:TypeId)≠39),(by decide:(133:TypeId)≠39),(by decide:(203:TypeId)≠39)⟩
  ·rcases List.mem_cons.1 e with e|e
   ·subst e
    exact⟨ha1.below k1.bel ha1.lt,(k1.old _ ha1.lt).1,(by decide:(101:TypeId)≠23),(by decide:(3:TypeId)≠23),(by decide:(133:TypeId)≠23),(by decide:(203:TypeId)≠23)⟩
   ·cases e
 have HSE:Hid (∀w,Calls Zw 40 #[.int .u8 5] w fun e w'=>∃g,e=Zu (.slice (some ⟨g,0,none⟩) 128 128)/\At w' g (ucells knownS).toArray 5/\Below w.heap.size w w'):=fun w=>(Zpx 5 w).mono fun e w' ⟨x1,x2,x3⟩=>⟨_,x1,x2,x3⟩
 have HB1:=hid hb1;have d0:=ha1.cell 0;have d1:=ha1.cell 1;have d2:=ha1.cell 2;have hl1:=ha1.lt;clear hb1 ha1 hg;have HW1:Hid (W.heap.size≤(W.alloc (.cells #[O Z 3,O Z 1,O Z 2] 23)).heap.size):=HB1.out.size;go_enter Tryz.func9,Tryz.ntmps9;go_upto_region 5 with (go_at_call 11;(with_reducible refine HMA.out.mono ?_);rintro e w2 ⟨T2,A,pp,cp,sp,rfl,hb2⟩;have HB2:=hid hb2;clear hb2)
 obtain⟨w1,hw1⟩:∃w1,w1=(W.alloc (.cells #[O Z 3,O Z 1,O Z 2] 23)):=⟨_,rfl⟩;rw[<-hw1]at HB2 HB1 HW1;clear HMA hw1 d0 d1 d2 hl1;go_cut [3]from 14 to 22 (fun s3 wx=>∃tb T R V,s3=Zs (some ⟨tb,0,none⟩)/\Hb w1 wx T A R [trBox tb,pairBox pp A cp sp,geoBox W.heap.size]/\KnR R V);case first=>
  have HZ2:Hid (w1.heap.size≤w2.heap.size):=HB2.out.hn.bel.size;have HNT:Hid (∀x∈ [pairBox pp A cp sp,geoBox W.heap.size],x.1<w2.heap.size):=fun x hx=>(HB2.out.box x hx).1.lt
  have HS:Hid (∀X L,Hb w1 X T2 A knR0 L->pairBox pp A cp sp∈L->X.cell? ⟨pp,2,none⟩=some (Zs (some ⟨A.q,0,none⟩))):=fun X L h hm=>((h.box _ hm).1).cell 2
  have HS5:Hid (∀X T R L,Hb w1 X T A R L->pairBox pp A cp sp∈L->X.cell? ⟨pp,2,none⟩=some (Zs (some ⟨A.q,0,none⟩))):=fun X T R L h hm=>((h.box _ hm).1).cell 2
  go_region_held3 (fun X=>X.cell? ⟨pp,2,none⟩=some (Zs (some ⟨A.q,0,none⟩)))
   (first
    |(refine HS.out _ [pairBox pp A cp sp,geoBox W.heap.size] ?_ List.mem_cons_self;(focus ((repeat (first|with_reducible exact HB2.out|with_reducible refine Zbc ?_|with_reducible refine Zbt ?_|with_reducible exact HB3.out|with_reducible exact HBT.out));done)))
    |(refine HS.out _ [trBox w2.heap.size,pairBox pp A cp sp,geoBox W.heap.size] ?_ (List.mem_cons_of_mem _ List.mem_cons_self);(focus ((repeat (first|with_reducible exact HBT.out|with_reducible refine Zbc ?_|with_reducible refine Zbt ?_));done)))
    |(refine HS5.out _ _ _ _ HB5.out ?_;(first|exact List.mem_cons_self|exact List.mem_cons_of_mem _ List.mem_cons_self))
    |(refine HS5.out _ _ _ _ HFIN.out ?_;(first|exact List.mem_cons_self|exact List.mem_cons_of_mem _ List.mem_cons_self))
    |(refine HS5.out _ _ _ _ (Zbc HB5.out) ?_;(first|exact List.mem_cons_self|exact List.mem_cons_of_mem _ List.mem_cons_self)))
   (first
    |(go_at_call 40;(with_reducible refine(HSE.out _).mono ?_);rintro e w3 ⟨g3,rfl,hs3,hb3⟩;have HS3:=hid hs3;(refine Zw5 (P:=Hb w1 w3 T2 A knR0 [trBox w2.heap.size,pairBox pp A cp sp,geoBox W.heap.size]) ?_ ?_);(focus (refine Zow ?_ hb3;(repeat (first|with_reducible exact HB2.out|(with_reducible refine Zds ?_ ?_;(focus (first|with_reducible rfl|(simp only [Zaa];done))))|with_reducible refine Zbc ?_|with_reducible refine Zbt ?_|with_reducible exact HB3.out|with_reducible exact HBT.out));done));intro hbt;have HZ3:Hid (w1.heap.size≤w3.heap.size):=hbt.hn.bel.size;have HBT:=hid hbt;clear hbt;clear hs3 hb3)
    |(go_at_call 40;(with_reducible refine(HSE.out _).mono ?_);rintro e w3 ⟨g3,rfl,hs3,hb3⟩;have HS3:=hid hs3;(refine Zw5 (P:=Hb w1 w3 T2 A knR0 [pairBox pp A cp sp,geoBox W.heap.size]) ?_ ?_);(focus (refine Zow ?_ hb3;(repeat (first|with_reducible exact HB2.out|with_reducible refine Zbc ?_|with_reducible refine Zbt ?_|with_reducible exact HB3.out|with_reducible exact HBT.out));done));intro hbt;have HZ3:Hid (w1.heap.size≤w3.heap.size):=hbt.hn.bel.size;have HN3:Hid (∀x∈ [pairBox pp A cp sp,geoBox W.heap.size],x.1<w3.heap.size):=fun x hx=>(hbt.box x hx).1.lt;have HB3:=hid hbt;clear hbt;clear hs3 hb3)
    |(go_at_call 12;(with_reducible refine Calls.mono (Zgx (w0:=w1) (T:=T2) (A:=A) (g:=g3) (L:= [trBox w2.heap.size,pairBox pp A cp sp,geoBox W.heap.size]) ?_ ?_ ?_) ?_);(focus ((repeat (first|with_reducible exact HB2.out|(with_reducible refine Zds ?_ ?_;(focus (first|with_reducible rfl|(simp only [Zaa];done))))|with_reducible refine Zbc ?_|with_reducible refine Zbt ?_|with_reducible exact HB3.out|with_reducible exact HBT.out));done));(focus ((repeat (first|(with_reducible refine Zks ?_;(focus (first|with_reducible rfl|(simp only [Zaa];done))))|with_reducible refine Zcc ?_|with_reducible refine hat_drew ?_));done));(focus ((repeat (first|with_reducible exact HS3.out|with_reducible refine Zcc ?_|with_reducible refine hat_drew ?_));done));rintro e w5 ⟨rfl,T5,R5,V5,hb5,hk5⟩;have HB5:=hid hb5;have HK5:=hid hk5;have hx5:=hb5.get 0 rfl;have c0:=hx5.cell 0;have c1:=hx5.cell 1;have f0:=hx5.free 0;have f1:=hx5.free 1;have HFIN:=hid (hb5.zeros HZ2.out (fun x hx=>Nat.ne_of_lt (HNT.out x hx)));clear hx5;clear hb5 hk5)
    |(go_at_call 12;(with_reducible refine Calls.mono (Zgx (w0:=w1) (T:=T2) (A:=A) (g:=g3) (L:= [trBox w3.heap.size,pairBox pp A cp sp,geoBox W.heap.size]) ?_ ?_ ?_) ?_);(focus ((repeat (first|with_reducible exact HB2.out|(with_reducible refine Zds ?_ ?_;(focus (first|with_reducible rfl|(simp only [Zaa];done))))|with_reducible refine Zbc ?_|with_reducible refine Zbt ?_|with_reducible exact HB3.out|with_reducible exact HBT.out));done));(focus ((repeat (first|(with_reducible refine Zks ?_;(focus (first|with_reducible rfl|(simp only [Zaa];done))))|with_reducible refine Zcc ?_|with_reducible refine hat_drew ?_));done));(focus ((repeat (first|with_reducible exact HS3.out|with_reducible refine Zcc ?_|with_reducible refine hat_drew ?_));done));rintro e w5 ⟨rfl,T5,R5,V5,hb5,hk5⟩;have HB5:=hid hb5;have HK5:=hid hk5;have hx5:=hb5.get 0 rfl;have c0:=hx5.cell 0;have c1:=hx5.cell 1;have f0:=hx5.free 0;have f1:=hx5.free 1;have HFIN:=hid (hb5.zeros HZ3.out (fun x hx=>Nat.ne_of_lt (HN3.out x hx)));clear hx5;clear hb5 hk5)
    |(go_at_call 12;(with_reducible refine Calls.mono (Zgx (w0:=w1) (T:=T2) (A:=A) (g:=g3) (L:= [trBox (w3.heap.size+1),pairBox pp A cp sp,geoBox W.heap.size]) ?_ ?_ ?_) ?_);(focus ((repeat (first|with_reducible exact HB2.out|(with_reducible refine Zds ?_ ?_;(focus (first|with_reducible rfl|(simp only [Zaa];done))))|with_reducible refine Zbc ?_|with_reducible refine Zbt ?_|with_reducible exact HB3.out|with_reducible exact HBT.out));done));(focus ((repeat (first|(with_reducible refine Zks ?_;(focus (first|with_reducible rfl|(simp only [Zaa];done))))|with_reducible refine Zcc ?_|with_reducible refine hat_drew ?_));done));(focus ((repeat (first|with_reducible exact HS3.out|with_reducible refine Zcc ?_|with_reducible refine hat_drew ?_));done));rintro e w5 ⟨rfl,T5,R5,V5,hb5,hk5⟩;have HB5:=hid hb5;have HK5:=hid hk5;have hx5:=hb5.get 0 rfl;have c0:=hx5.cell 0;have c1:=hx5.cell 1;have f0:=hx5.free 0;have f1:=hx5.free 1;have HFIN:=hid (hb5.zeros (Nat.le_succ_of_le HZ3.out) (fun x hx=>Nat.ne_of_lt (Nat.lt_succ_of_lt (HN3.out x hx))));clear hx5;clear hb5 hk5)
    |(go_at_call 12;(with_reducible refine Calls.mono (Zgx (w0:=w1) (T:=T2) (A:=A) (g:=g3) (L:= [pairBox pp A cp sp,geoBox W.heap.size]) ?_ ?_ ?_) ?_);(focus ((repeat (first|with_reducible exact HB2.out|with_reducible refine Zbc ?_|with_reducible refine Zbt ?_|with_reducible exact HB3.out|with_reducible exact HBT.out));done));(focus ((repeat (first|(with_reducible refine Zks ?_;(focus (first|with_reducible rfl|(simp only [Zaa];done))))|with_reducible refine Zcc ?_|with_reducible refine hat_drew ?_));done));(focus ((repeat (first|with_reducible exact HS3.out|with_reducible refine Zcc ?_|with_reducible refine hat_drew ?_));done));rintro e w5 ⟨rfl,T5,R5,V5,hb5,hk5⟩;have HB5:=hid hb5;have HK5:=hid hk5;have HFIN:=hid (Zds rfl hb5);clear hb5 hk5))
  all_goals go_wp2_with fail
  all_goals go_meet
  all_goals exact⟨_,_,_,_,rfl,HFIN.out,HK5.out⟩
 case rest=>
  obtain⟨tb,T5,R5,V5,rfl,hb5,hk5⟩:=hcut;have p2:wc.cell? ⟨pp,2,none⟩=some (Zs (some ⟨A.q,0,none⟩)):=(hb5.get 1 rfl).cell 2;have HB5:=hid hb5;have HK:=hid hk5;have HN5:Hid (pp<wc.heap.size):=(hb5.get 1 rfl).lt;clear hb5 hk5
  go_upto_region 10 with (first
   |(go_at_call 13;(with_reducible refine(Zvp HB5.out HK.out.res).mono ?_);rintro e w6 ⟨rfl,hb6⟩;clear p2;have HB6:=hid hb6;have p0:w6.cell? ⟨pp,0,none⟩=some (Zs (some ⟨A.b,0,none⟩)):=(hb6.get 1 rfl).cell 0;clear hb6)
   |(go_at_call 30;(with_reducible refine(Zvq HB6.out HK.out.res HK.out.good).mono ?_);rintro e w7 ⟨rfl,hb7⟩;clear p0;have HB7:=hid hb7;have p0:w7.cell? ⟨pp,0,none⟩=some (Zs (some ⟨A.b,0,none⟩)):=(hb7.get 1 rfl).cell 0;clear hb7)
   |(go_at_call 31;(with_reducible refine(Zws HB7.out HK.out.res HK.out.good HK.out.aside).mono ?_);rintro e w8 ⟨rfl,T8,hb8⟩;clear p0;have HB8:=hid hb8;have p0:w8.cell? ⟨pp,0,none⟩=some (Zs (some ⟨A.b,0,none⟩)):=(hb8.get 1 rfl).cell 0;clear hb8)
   |(go_at_call 14;(with_reducible refine(Zqy HB8.out HK.out.res).mono ?_);rintro e w9 ⟨rfl,hb9⟩;clear p0;have HB9:=hid ((HB8.out.below hb9).push #[O Z 1,O Z 18,O Z 3] 46 (by decide) (by decide) (by decide) (by decide));clear hb9))
  obtain⟨cb,hcb⟩:∃cb,cb=w9.heap.size:=⟨_,rfl⟩;have HBA:Hid (Hb w1 (w9.alloc (.cells #[O Z 1,O Z 18,O Z 3] 46)) T8 A (R5.anew 0) (cntBox cb 1 18 3:: [trBox tb,pairBox pp A cp sp,geoBox W.heap.size])):=by rw[hcb];exact HB9.out
  rw[<-hcb];clear HB9 HB8 HB7 HB6 HB5 hcb;generalize (w9.alloc (.cells #[O Z 1,O Z 18,O Z 3] 46))=wa at*;go_cut [5]from 42 to 52 (fun s5 wx=>∃ub T s',s5=Zs (some ⟨ub,0,none⟩)/\Hb w1 wx T A {R5.anew 0 with s:=s'} (trBox ub::(cntBox cb 1 18 3:: [trBox tb,pairBox pp A cp sp,geoBox W.heap.size]))/\Healed (R5.anew 0) V5 0 0 1 s');case first=>
   have HZA:Hid (w1.heap.size≤wa.heap.size):=HBA.out.hn.bel.size;have HS:Hid (∀X T R L,Hb w1 X T A R L->pairBox pp A cp sp∈L/\geoBox W.heap.size∈L->X.cell? ⟨pp,0,none⟩=some (Zs (some ⟨A.b,0,none⟩))/\X.cell? ⟨pp,2,none⟩=some (Zs (some ⟨A.q,0,none⟩))/\X.cell? ⟨W.heap.size,0,none⟩=some (O Z 3)/\X.cell? ⟨W.heap.size,1,none⟩=some (O Z 1)/\X.cell? ⟨W.heap.size,2,none⟩=some (O Z 2)):=fun X T R L h hm=>⟨((h.box _ hm.1).1).cell 0,((h.box _ hm.1).1).cell 2,((h.box _ hm.2).1).cell 0,((h.box _ hm.2).1).cell 1,((h.box _ hm.2).1).cell 2⟩
   have HM4:Hid (pairBox pp A cp sp∈(cntBox cb 1 18 3:: [trBox tb,pairBox pp A cp sp,geoBox W.heap.size])/\geoBox W.heap.size∈(cntBox cb 1 18 3:: [trBox tb,pairBox pp A cp sp,geoBox W.heap.size])):=⟨by simp,by simp⟩;have HM5:Hid (∀n,pairBox pp A cp sp∈(trBox n::(cntBox cb 1 18 3:: [trBox tb,pairBox pp A cp sp,geoBox W.heap.size]))/\geoBox W.heap.size∈(trBox n::(cntBox cb 1 18 3:: [trBox tb,pairBox pp A cp sp,geoBox W.heap.size]))):=fun n=>⟨by simp,by simp⟩
   have HL4:Hid (∀x∈(cntBox cb 1 18 3:: [trBox tb,pairBox pp A cp sp,geoBox W.heap.size]),x.1≠wa.heap.size):=fun x hx=>Nat.ne_of_lt (HBA.out.box x hx).1.lt
   go_region_held3 (fun X=>X.cell? ⟨pp,0,none⟩=some (Zs (some ⟨A.b,0,none⟩))/\X.cell? ⟨pp,2,none⟩=some (Zs (some ⟨A.q,0,none⟩))/\X.cell? ⟨W.heap.size,0,none⟩=some (O Z 3)/\X.cell? ⟨W.heap.size,1,none⟩=some (O Z 1)/\X.cell? ⟨W.heap.size,2,none⟩=some (O Z 2))
    (first
     |(refine HS.out _ T8 (R5.anew 0) (cntBox cb 1 18 3:: [trBox tb,pairBox pp A cp sp,geoBox W.heap.size]) ?_ HM4.out;(focus ((repeat (first|with_reducible exact HBA.out|with_reducible refine Zbc ?_|with_reducible refine Zbt ?_));done)))
     |exact HS.out _ _ _ _ HBB.out HM4.out
     |exact HS.out _ _ _ _ HBB.out (HM5.out _)
     |exact HS.out _ _ _ _ (Zbc HBB.out) HM4.out
     |exact HS.out _ _ _ _ HFIN.out (HM5.out _))
    (first
     |(go_at_call 15;(with_reducible refine Calls.mono (Zso (w0:=w1) (T:=T8) (A:=A) (R:=R5) (V:=V5) (L:=trBox wa.heap.size::(cntBox cb 1 18 3:: [trBox tb,pairBox pp A cp sp,geoBox W.heap.size])) ?_ HK.out.res HK.out.good) ?_);(focus ((repeat (first|with_reducible exact HBA.out|(with_reducible refine Zds ?_ ?_;(focus (first|with_reducible rfl|(simp only [Zaa];done))))|with_reducible refine Zbc ?_|with_reducible refine Zbt ?_));done));rintro e wb ⟨rfl,Tb,sb,hb,hh⟩;have hx:=hb.get 0 rfl;have c0:=hx.cell 0;have c1:=hx.cell 1;have f0:=hx.free 0;have f1:=hx.free 1;have HFIN:=hid (hb.zeros HZA.out HL4.out);have HBB:=hid hb;have HH:=hid hh;clear hb hh hx)
     |(go_at_call 15;(with_reducible refine Calls.mono (Zso (w0:=w1) (T:=T8) (A:=A) (R:=R5) (V:=V5) (L:=(cntBox cb 1 18 3:: [trBox tb,pairBox pp A cp sp,geoBox W.heap.size])) ?_ HK.out.res HK.out.good) ?_);(focus ((repeat (first|with_reducible exact HBA.out|with_reducible refine Zbc ?_|with_reducible refine Zbt ?_));done));rintro e wb ⟨rfl,Tb,sb,hb,hh⟩;have HFIN:=hid (Zds rfl hb);have HBB:=hid hb;have HH:=hid hh;clear hb hh))
   all_goals go_wp2_with fail
   all_goals go_meet
   all_goals exact⟨_,_,_,rfl,HFIN.out,HH.out⟩
  case rest=>
   obtain⟨ub,T10,s10,rfl,hb10,hh⟩:=hcut;have p0:wc.cell? ⟨pp,0,none⟩=some (Zs (some ⟨A.b,0,none⟩)):=(hb10.get 3 rfl).cell 0;have HB10:=hid hb10;have HH:=hid hh;have HP10:Hid (pp<wc.heap.size):=(hb10.get 3 rfl).lt;clear hb10 hh HBA
   go_wp2_with (first
    |(go_at_call 14;(with_reducible refine(Zqa HB10.out HH.out HK.out.res).mono ?_);rintro e w11 ⟨rfl,hb11⟩;clear p0;have hp:=(HB10.out.below hb11).push #[O Z 3,O Z 19,O Z 4] 46 (by decide) (by decide) (by decide) (by decide);have p0:(w11.alloc (.cells #[O Z 3,O Z 19,O Z 4] 46)).cell? ⟨pp,0,none⟩=some (Zs (some ⟨A.b,0,none⟩)):=(hp.get 4 rfl).cell 0;have HB11:=hid hp;clear hb11 hp)
    |(go_at_call 34;(with_reducible refine(Zuw HB11.out HH.out HK.out.res HK.out.good HK.out.blk).mono ?_);rintro e w12 ⟨gi,ci,rfl,hb12,hci,hli⟩;clear p0;have hp:=HB11.out.below hb12;have n0:w12.cell? ⟨w11.heap.size,0,none⟩=some (O Z 3):=(hp.get 0 rfl).cell 0;have n1:w12.cell? ⟨w11.heap.size,1,none⟩=some (O Z 19):=(hp.get 0 rfl).cell 1;have n2:w12.cell? ⟨w11.heap.size,2,none⟩=some (O Z 4):=(hp.get 0 rfl).cell 2;have v0:w12.cell? ⟨ub,0,none⟩=some (O Z 0):=(hp.get 1 rfl).cell 0;have v1:w12.cell? ⟨ub,1,none⟩=some (.int .u16 0):=(hp.get 1 rfl).cell 1;have m0:w12.cell? ⟨cb,0,none⟩=some (O Z 1):=(hp.get 2 rfl).cell 0;have m1:w12.cell? ⟨cb,1,none⟩=some (O Z 18):=(hp.get 2 rfl).cell 1;have m2:w12.cell? ⟨cb,2,none⟩=some (O Z 3):=(hp.get 2 rfl).cell 2;have t0:w12.cell? ⟨tb,0,none⟩=some (O Z 0):=(hp.get 3 rfl).cell 0;have t1:w12.cell? ⟨tb,1,none⟩=some (.int .u16 0):=(hp.get 3 rfl).cell 1;have HB12:=hid hp;clear hb12 hp))
   go_ret;exact⟨rfl,HB1.out.trans (HB12.out.hn.bel.mono HW1.out)⟩
open Go.RowKit
structure HcP (R:RS) (V:Nat->Nat->Sec) (M C S ring:Nat) (lazy:Bool) (a b:Nat):Prop where
 good:Good R V
 idle:R.lazy=true\/R.wait= []
 bud:Bud R a b
 up:R.fr=fun _=> -1
 aside:∀q,q%3≠0->R.s.pos q=none
 M:R.M=M
 C:R.C=C
 S:R.S=S
 size:R.size=ring
 lazy:R.lazy=lazy
theorem HcP.more(h:HcP R V M C S ring lazy a b)(ha:a≤a')(hb:b≤b'):HcP R V M C S ring lazy a' b':=⟨h.good,h.idle,h.bud.mono ha hb,h.up,h.aside,h.M,h.C,h.S,h.size,h.lazy⟩
theorem HcP.next{R':RS}{V':Nat->Nat->Sec}(h:HcP R V M C S ring lazy a b)(hs:Same R R')(hg:Good R' V')(hi:R'.lazy=true\/R'.wait= [])(hb:Bud R' a' b'):HcP R' V' M C S ring lazy a' b':=
 ⟨hg,hi,hb,hs.fr.trans h.up,fun q hq=>(hs.base.aside q hq).trans (h.aside q hq),hs.M.trans h.M,hs.C.trans h.C,hs.S.trans h.S,hs.size.trans h.size,hs.lazy.trans h.lazy⟩
theorem HcP.begun(hg:geoIs M C S=true)(h5:5≤ring)(h6:ring≤2048):HcP (made0R M C S ring lazy) zeroV M C S ring lazy 10000 3000:=by
 have g4:=(Zbe hg).2.2.2;have hm:=Zey (M:=M) (C:=C) (S:=S) g4 h5 h6;refine⟨Zfb hg h5 h6 hm,.inr rfl,⟨?_,?_,?_,by show 1≤_;omega,ring+1,hm.small,by show ring+1+0≤3000;omega⟩,rfl,hm.aside,rfl,rfl,rfl,rfl,rfl⟩
 ·show(formed _ _ _ _).cnt 0≤_
  rw[hm.c0];omega
 ·show(formed _ _ _ _).cnt 1≤_
  rw[hm.c1];omega
 ·show(formed _ _ _ _).cnt 2≤_
  rw[hm.c2];omega
section
variable {w0 W:World} {T:Nat->Nat} {A:Adr} {R:RS} {V:Nat->Nat->Sec} {L:List (Nat×Array Value×TypeId)} {M C S ring:Nat} {lazy:Bool} {a b:Nat}
theorem Zut(h:Hb w0 W T A R L)(hp:HcP R V M C S ring lazy a b)(hin:Within a b)(pv:Value)(us:List (Int×List UInt8))(hu:PutSeg w0 pv us):
  Calls Zw 12 #[Zs (some ⟨A.q,0,none⟩),pv] W fun e w'=>(∃c:Nat,e=Zu (.agg #[O Z 0,.int .u16 c]))/\∃T' R' V',Hb w0 w' T' A R' L/\HcP R' V' M C S ring lazy (a+1000000) (b+8*us.length+4):=by
 refine(Zwr (h.lat hp.good hp.idle) hp.bud hin pv us hu).mono ?_;rintro e w' ⟨rfl,T',R',V',hl,hs,hb,hsm,-⟩;exact⟨⟨_,rfl⟩,T',R',V',h.step hl.hn hs,hp.next hsm hl.good hl.idle hb⟩
end
end Go.Proofs.YtljjjpakcbcioaaGreat
namespace Go.Proofs.YtljjjpakcbcioaaGreat
open Value renaming int→O,pointer→Zs,slice→Zt
open IntKind renaming i64→Z
open Ending renaming returned→Zu
open Obj renaming cells→Zv
open Go.Proofs.Tryz renaming prog→Zw
open Go.RowKit
open Lib(hid)
variable {A:Adr} {cs:Array Value} {s s' t:BaySt} {lazy:Bool} {x:Dev} {ls:List (List Bool)} {l:List Bool} {X:List OP} {L:List Sec} {I:List UInt8} {C M N P S a b c f g k m q ring:Nat} {T sz:Nat->Nat} {V:Nat->Nat->Sec} {G:Nat->Prop} {F:Nat->Sec} {lg:Option Nat} {R:RS} {H:Type} {v vw:Value} {W w w' w0:World}
theorem Zyn(x y:UInt8):(((x.toNat:Nat):Int) !=((y.toNat:Nat):Int))= !decide (x=y):=by
  by_cases h:x=y
  · subst h;simp
  · have:¬x.toNat=y.toNat:=fun e=>h (UInt8.toNat_inj.1 e)
    have h2:¬((x.toNat:Nat):Int)=((y.toNat:Nat):Int):=by omega
    simp[h,h2]
theorem Zxm{α:Type}{l m:List α}(h:l.take k=m.take k)(hl:k<l.length)(hm:k<m.length)(he:l[k]=m[k]):l.take (k+1)=m.take (k+1):=by
  rw[List.take_succ_eq_append_getElem hl,List.take_succ_eq_append_getElem hm,h,he]
theorem disk_settle_crash(T:Nat->Nat)(t p:Nat)(d:Dsk)(kb:Nat)(keep:Nat->Bool)(w:World)(h:DiskAt w T t p d)(hm:d.cache.length≤1000000)
    (hk:∀(i:Nat) (W:World),i<d.cache.length->Chg (fun k=>T k=t) w W->Calls Zw 137 (#[O Z (i:Int)]++ #[Zs (some ⟨kb,0,none⟩)]) W fun e W'=>e=Zu (.bool (keep i))/\Below W.heap.size W W'):
    Calls Zw 134 #[Zs (some ⟨p,0,none⟩),.func (.func 137) #[] #[Zs (some ⟨kb,0,none⟩)]] w fun e w'=>e=Zu (.tuple #[])/\DiskAt w' T t p ⟨settleTo d.last d.cache keep d.cache.length,[],d.failed⟩/\Chg (fun k=>T k=t) w w':=by
  obtain⟨gl,gm,cv,f,h1,h2,h3,h4,h5,h6,h7,h8⟩:=h.at';obtain⟨ca,cc,rfl⟩:=Zab h3;have HS:Hid (Settled w w p gl gm (Zt ca d.cache.length cc) f d keep 0):=⟨h1,h2,h3,h4,Zl _ _⟩;have HK:=hid hk;have HD:=hid h;have c1:w.cell? ⟨p,1,none⟩=some (Zt ca d.cache.length cc):=h1.cell 1;clear h h1 h2 h3 h4 h5 hk;go_enter Tryz.func134,Tryz.ntmps134;go_wp2;go_loopw [11] (fun q wr=>∃i:Nat,i≤d.cache.length/\q=O Z i/\Settled w wr p gl gm (Zt ca d.cache.length cc) f d keep i) (fun q _=>d.cache.length-(intOf q).toNat);case atStart=>exact⟨0,by omega,rfl,HS.out⟩
  case round=>
    clear HS c1;obtain⟨i,hi,rfl,hs⟩:=hrel;by_cases hin:i<d.cache.length
    · obtain⟨gc,cc',hve,_,hgcl⟩:=Zas hs.h3 (by omega)
      simp only [Zn]at hve;obtain⟨rfl,_,rfl⟩:=hve;have hcl:=HD.out.clen _ (Zj hin);have hcin:=HD.out.cin _ (Zj hin);have hgct:T gc=t:=h8 gc rfl;obtain⟨x,hx⟩:∃x,x=d.cache[i]:=⟨_,rfl⟩;rw[<-hx]at hcl hcin;have hrw:wr.rangeAt gc (i*129) (wcell x):=fun j u hj=>by
        have hj2:j<129:=by have:=(List.getElem?_eq_some_iff.1 hj).1;rwa [Zc6 hcl]at this
        rw[hs.h3.cellAt (i*129+j) (by omega),Zhl HD.out.clen i j hin hj2,<-hx,hj]
      have HRW:=hid hrw;have hwl:=Zc6 hcl;have HSS:=hid hs;have K1:Hid (i+1≤d.cache.length):=hin;have HNX:Hid (settleTo d.last d.cache keep (i+1)=if keep i then (settleTo d.last d.cache keep i).set x.1 x.2 else settleTo d.last d.cache keep i):=by
        show(match d.cache[i]? with|some x=>if keep i then (settleTo d.last d.cache keep i).set x.1 x.2 else settleTo d.last d.cache keep i|none=>settleTo d.last d.cache keep i)=_
        rw[Zh hin,<-hx]
      have HX:=hid hx;have hchT:Chg (fun k=>T k=t) w (wr.alloc (Zv (wcell x).toArray 232)):=(hs.ch.mono (fun k hk=>by subst hk;exact h6)).alloc _;have HC:=hid (HK.out i (wr.alloc (Zv (wcell x).toArray 232)) hin hchT);clear hs hrw hx hchT HK;cases hkp:keep i
      · rw[hkp]at HC HNX
        go_wp2_with (first
          |(refine wpList_load_mid rfl 232 _ rfl gc (i*129) rfl (wcell x) _ HRW.out Tryz.underlying232 rfl (by rw[hwl];exact Zb0) ?_)
          |(refine Zbg rfl 232 rfl wzero Zej ?_)
          |(refine Za3 rfl 232 _ _ rfl wzero (wcell x).toArray rfl rfl (by rw[List.size_toArray,hwl];exact Zb0) (Zec.trans (by rw[List.size_toArray,hwl])) (all_oneCell_toArray (Zfn x)) ?_)
          |(go_at_call 137;refine HC.out.mono ?_;rintro e w2 ⟨rfl,hb2⟩))
        exact⟨⟨i+1,K1.out,by go_num,HSS.out.next_same (((Zl _ _).alloc _).trans (Zm hb2 _)) HNX.out⟩,by simp[intOf];omega⟩
      · rw[hkp]at HC HNX
        go_wp2_with (first
          |(refine wpList_load_mid rfl 232 _ rfl gc (i*129) rfl (wcell x) _ HRW.out Tryz.underlying232 rfl (by rw[hwl];exact Zb0) ?_)
          |(refine Zbg rfl 232 rfl wzero Zej ?_)
          |(refine Za3 rfl 232 _ _ rfl wzero (wcell x).toArray rfl rfl (by rw[List.size_toArray,hwl];exact Zb0) (Zec.trans (by rw[List.size_toArray,hwl])) (all_oneCell_toArray (Zfn x)) ?_)
          |(go_at_call 137;refine HC.out.mono ?_;rintro e w2 ⟨rfl,hb2⟩))
        have hal:Chg (fun _=>False) wr w2:=((Zl _ _).alloc _).trans (Zm hb2 _);have p0:w2.cell? ⟨p,0,none⟩=some (Zt (some ⟨gl,0,none⟩) d.last.length d.last.length):=(HSS.out.h1.mod hal (fun h=>h)).cell 0;have b0:At w2 wr.heap.size (wcell x).toArray 232:=(At.new wr (wcell x).toArray 232).below hb2 (by rw[Zaa];omega);have HNS:=hid (fun (W':World) (hc:Chg (fun _=>False) wr W')=>HSS.out.next_set hc HNX.out HD.out.len HD.out.clen hcin hcl);have hgl2:At w2 gl (secCells (settleTo d.last d.cache keep i)).toArray 229:=HSS.out.h2.mod hal (fun h=>h);have hgsz:(secCells (settleTo d.last d.cache keep i)).length=d.last.length*128:=by rw[Zau (Zav HD.out.len HD.out.clen keep i),Zak]
        have hglp:gl≠p:=fun e=>by
          have a:=HSS.out.h1;have b:=HSS.out.h2;subst e;unfold At at a b;rw[a]at b;simp only [Zg,Obj.cells.injEq]at b;exact absurd b.2.1 (by decide)
        have hglw:gl≠wr.heap.size:=fun e=>by have:=HSS.out.h2.lt;omega
        obtain⟨a,s⟩:=x;have hcin':a<d.last.length:=hcin;have hcl':s.length=128:=hcl;have b1:w2.cell? ⟨wr.heap.size,0,none⟩=some (O Z (a:Int)):=b0.cell 0;have b2:w2.rangeAt wr.heap.size 1 (ucells s):=fun j u hj=>by
          rw[b0.cell,List.getElem?_toArray,Nat.add_comm 1 j];exact hj
        have b3:w2.there gl (a*128) 128:=fun j hj=>⟨by rw[hgl2.cell,List.getElem?_toArray,Zh (by omega)];rfl,hgl2.free _⟩
        have hul:(ucells s).length=128:=by rw[Zag,hcl']
        have hu:Tryz.prog.underlying 229=some (.array 128 5):=Tryz.underlying229;have hsz:(Tryz.prog.info? 229).map (·.size)=some (ucells s).length:=by rw[hul];exact Zbi
        have hone:∀v∈ucells s,v.oneCell'=true:=Za8 s;have i0:(0:Int)≤(a:Int):=Int.natCast_nonneg _;have i1:(a:Int)<(d.last.length:Int):=by omega
        have hfew:=HD.out.few;have HS0:w2.drew.cell? ⟨p,0,none⟩=some (Zt (some ⟨gl,0,none⟩) d.last.length d.last.length)/\w2.drew.cell? ⟨wr.heap.size,0,none⟩=some (O Z (a:Int))/\w2.drew.rangeAt wr.heap.size 1 (ucells s)/\w2.drew.there gl (a*128) 128:=⟨p0,b1,b2,b3⟩;have hset:=(Zd6 (w:=w2.drew) hgl2 (Zav HD.out.len HD.out.clen keep i) (a:=a) (s:=s) (by rw[Zak];exact hcin') hcl');have HS1:(w2.drew.setCells gl (a*128) (ucells s)).cell? ⟨p,0,none⟩=some (Zt (some ⟨gl,0,none⟩) d.last.length d.last.length)/\(w2.drew.setCells gl (a*128) (ucells s)).cell? ⟨wr.heap.size,0,none⟩=some (O Z (a:Int))/\(w2.drew.setCells gl (a*128) (ucells s)).rangeAt wr.heap.size 1 (ucells s)/\(w2.drew.setCells gl (a*128) (ucells s)).there gl (a*128) 128:=
          ⟨(hset.2.cell (p := ⟨p, 0, none⟩) (block_lt_of_cell p0) (Ne.symm hglp)).trans p0, (hset.2.cell (p := ⟨wr.heap.size, 0, none⟩) b0.lt (Ne.symm hglw)).trans b1, fun j u hj => (hset.2.cell (p := ⟨wr.heap.size, 1 + j, none⟩) b0.lt (Ne.symm hglw)).trans (b2 j u hj),
            fun j hj=>⟨by rw[hset.1.cell,List.getElem?_toArray,Zh (by rw[Zau (fun y hy=>by rcases List.mem_or_eq_of_mem_set hy with hy|hy;exact Zav HD.out.len HD.out.clen keep i y hy;rw[hy];exact hcl'),List.length_set,Zak];omega)];rfl,hset.1.free _⟩⟩
        have HSA:=hid HS0;have HSB:=hid HS1;clear HS0 HS1 hset b0 hgl2 HSS;go_region_held3 (fun w'=>w'.cell? ⟨p,0,none⟩=some (Zt (some ⟨gl,0,none⟩) d.last.length d.last.length)/\w'.cell? ⟨wr.heap.size,0,none⟩=some (O Z (a:Int))/\w'.rangeAt wr.heap.size 1 (ucells s)/\w'.there gl (a*128) 128)
          (first|exact HSA.out|exact HSB.out)
          (first|fail)
        go_wp2;exact⟨⟨i+1,K1.out,by go_num,HNS.out w2.drew hal.drew⟩,by simp[intOf];omega⟩
    · obtain rfl:i=d.cache.length:=by omega
      have e0:wr.cell? ⟨p,1,none⟩=some (Zt ca d.cache.length cc):=hs.h1.cell 1;have e0f:=hs.h1.free 1;have HSS:=hid hs;have hp1:=(hs.h1.set 1 (Zt none 0 0));have e2:(wr.setCell ⟨p,1,none⟩ (Zt none 0 0)).cell? ⟨p,2,none⟩=some (.map (some gm)):=hp1.cell 2;have hset:Chg (fun k=>k=p) wr (wr.setCell ⟨p,1,none⟩ (Zt none 0 0)):=Zk (S:=fun k=>k=p) (Zl _ _) ⟨p,1,none⟩ (.inl rfl) _;have hpm:p≠gm:=fun e=>hs.h4.noCells (e ▸ hs.h1)
      have hglm:gl≠gm:=fun e=>hs.h4.noCells (e ▸ hs.h2)
      have hglp:gl≠p:=fun e=>by
        have a:=hs.h1;have b:=hs.h2;subst e;unfold At at a b;rw[a]at b;simp only [Zg,Obj.cells.injEq]at b;exact absurd b.2.1 (by decide)
      have HM:Hid ((wr.setCell ⟨p,1,none⟩ (.slice none 0 0)).imap Zw 3 3 gm d.cache.length f):=hs.h4.mod hset (Ne.symm hpm);have HP:=hid hp1;clear hs hp1 HK;go_wp2_with (refine Zdl rfl _ 197 rfl Tryz.underlying197 rfl HM.out ?_;intro w5 hm5 hc5);go_end0;have s1:=HSS.out;refine⟨rfl,⟨⟨gl,gm,.slice none 0 0,_,?_,?_,World.ownsRow_nil _ _ _ _,hm5,Seen.nil,h6,h7,fun g hg=>by simp[Value.ownBlock]at hg⟩,HD.out.tag,Zav HD.out.len HD.out.clen keep _,fun x hx=>by simp at hx,fun x hx=>by simp at hx,by rw[Zak];exact HD.out.few,by rw[Zak];exact HD.out.some'⟩,?_⟩
      · have:=HP.out.mod hc5 hpm
        simpa [Zak]using this
      · exact(s1.h2.mod hset hglp).mod hc5 hglm
      · exact((s1.ch.mono (fun k hk=>by subst hk;exact h6)).trans (hset.mono (fun k hk=>by subst hk;exact HD.out.tag))).trans (hc5.mono (fun k hk=>by subst hk;exact h7))
def Bitz(w:World)(T:Nat->Nat)(v:Value)(l:List Bool):Prop:=
  ∃a c,v=Zt a l.length c/\l.length≤9223372036854775807/\(l= []\/∃b o,a=some ⟨b,o,none⟩/\b<w.heap.size/\T b=0/\∀j (h:j<l.length),w.cell? ⟨b,o+j,none⟩=some (.bool l[j]))
def Bitzz(w:World)(T:Nat->Nat)(v:Value)(ls:List (List Bool)):Prop:=
  ∃a c,v=Zt a ls.length c/\ls.length≤9223372036854775807/\(ls= []\/∃b o,a=some ⟨b,o,none⟩/\b<w.heap.size/\T b=0/\∀j (h:j<ls.length),∃u,w.cell? ⟨b,o+j,none⟩=some u/\Bitz w T u ls[j])
theorem Bitz.keep{S:Nat->Prop}(h:Bitz w T v l)(hc:Chg S w w')(hS:∀k,S k->T k≠0):Bitz w' T v l:=by
  obtain⟨a,c,h1,h2,h3⟩:=h;refine⟨a,c,h1,h2,?_⟩;rcases h3 with h3|⟨b,o,h3,h4,h5,h6⟩
  · exact .inl h3
  · exact .inr ⟨b,o,h3,Zd h4 hc.size,h5,fun j hj=>(hc.cell (p:=⟨b,o+j,none⟩) h4 (fun hs=>hS b hs h5)).trans (h6 j hj)⟩
theorem Bitzz.keep{S:Nat->Prop}{l:List (List Bool)}(h:Bitzz w T v l)(hc:Chg S w w')(hS:∀k,S k->T k≠0):Bitzz w' T v l:=by
  obtain⟨a,c,h1,h2,h3⟩:=h;refine⟨a,c,h1,h2,?_⟩;rcases h3 with h3|⟨b,o,h3,h4,h5,h6⟩
  · exact .inl h3
  · refine .inr ⟨b,o,h3,Zd h4 hc.size,h5,fun j hj=> ?_⟩
    obtain⟨u,q1,q2⟩:=h6 j hj;exact⟨u,(hc.cell (p:=⟨b,o+j,none⟩) h4 (fun hs=>hS b hs h5)).trans q1,q2.keep hc hS⟩
theorem Bitz.nil(w:World)(T:Nat->Nat):Bitz w T (Zt none 0 0) []:=⟨none,0,rfl,by simp,.inl rfl⟩
theorem Bitz.shape(h:Bitz w T v l):∃a c,v=Zt a l.length c:=by
  obtain⟨a,c,h1,_⟩:=h;exact⟨a,c,h1⟩
theorem Bitzz.shape{l:List (List Bool)}(h:Bitzz w T v l):∃a c,v=Zt a l.length c:=by
  obtain⟨a,c,h1,_⟩:=h;exact⟨a,c,h1⟩
theorem crash_keep(T:Nat->Nat)(kb i:Nat)(v:Value)(l:List Bool)(w:World)(hk:At w kb #[v] 158)(hb:Bitz w T v l)(hi:i≤1000000):
    Calls Zw 137 #[O Z i,Zs (some ⟨kb,0,none⟩)] w fun e w'=>e=Zu (.bool (l.getD i false))/\Below w.heap.size w w':=by
  obtain⟨a,c,rfl,hn,h3⟩:=hb;have c0:w.cell? ⟨kb,0,none⟩=some (Zt a l.length c):=hk.cell 0;clear hk;by_cases h:i<l.length
  · rcases h3 with h3|⟨b,o,rfl,h4,h5,h6⟩
    · rw[h3]at h;simp at h
    · have c1:=h6 i h
      have e:l.getD i false=l[i]:=by rw[Zi,Zh h];rfl
      rw[e];clear h6 h5 e;generalize l[i]=x at*;generalize l.length=n at*;go_enter Tryz.func137,Tryz.ntmps137;go_wp2;go_ret;exact⟨rfl,Zb _ _⟩
  · have e:l.getD i false=false:=by rw[Zi,List.getElem?_eq_none (by omega)];rfl
    rw[e];clear h3 e;generalize l.length=n at*;go_enter Tryz.func137,Tryz.ntmps137;go_wp2;go_ret;exact⟨rfl,Zb _ _⟩
def Dsk.crash(d:Dsk)(l:List Bool):Dsk:=⟨settleTo d.last d.cache (fun i=>l.getD i false) d.cache.length,[],d.failed⟩
theorem disk_crash(T:Nat->Nat)(t p:Nat)(d:Dsk)(v:Value)(l:List Bool)(w:World)(h:DiskAt w T t p d)(ht:2≤t)(hv:∀k,w.heap.size≤k->T k=0)(hm:d.cache.length≤1000000)(hb:Bitz w T v l):
    Calls Zw 88 #[Zs (some ⟨p,0,none⟩),v] w fun e w'=>e=Zu (.tuple #[])/\DiskAt w' T t p (d.crash l)/\Chg (fun k=>T k=t) w w':=by
  have h0:Chg (fun k=>T k=t) w (w.alloc (Zv #[v] 158)):=(Zl _ _).alloc _;have hA:At (w.alloc (Zv #[v] 158)) w.heap.size #[v] 158:=At.new _ _ _;have hd1:DiskAt (w.alloc (Zv #[v] 158)) T t p d:=h.keep (S:=fun _=>False) ((Zl _ _).alloc _) (fun _ _ h=>h);have hb1:Bitz (w.alloc (Zv #[v] 158)) T v l:=hb.keep h0 (fun k hk=>by omega);have hs:=hid (disk_settle_crash T t p d w.heap.size (fun i=>l.getD i false) _ hd1 hm (fun i W hi hc=>crash_keep T w.heap.size i v l W (hA.mod hc (by rw[hv _ (Za _)];omega)) (hb1.keep hc (fun k hk=>by omega)) (by omega)));obtain⟨va,vc,rfl⟩:=hb.shape;clear h hA hd1 hb1 hb;go_enter Tryz.func88,Tryz.ntmps88;go_wp2_with (go_at_call 134;refine hs.out.mono ?_;rintro e w1 ⟨rfl,r1,r2⟩);go_end0;exact⟨rfl,r1,h0.trans r2⟩
def Dev.crash(x:Dev)(l:List Bool):Dev:=⟨x.d.crash l,x.worn,x.left⟩
def BaySt.crashAt(s:BaySt)(k:Nat)(l:List Bool):BaySt:={s with pos:=fun q=>if q=k*3 then (s.pos (k*3)).map (·.crash l)else s.pos q}
def BaySt.come(s:BaySt)(k:Nat):BaySt:=
  match s.pos (k*3+2)with
  |none=>s
  |some y=>{s with pos:=fun q=>if q=k*3 then some y else if q=k*3+2 then none else s.pos q}
def BaySt.cutTo(s:BaySt)(ks:List (List Bool)):Nat->BaySt
  |0=>s
  |k+1=>((s.cutTo ks k).crashAt k (ks.getD k [])).come k
def BaySt.cut(s:BaySt)(ks:List (List Bool)):BaySt:={s.cutTo ks s.n with dark:=false,trip:= -1}
theorem come_n(s:BaySt)(k:Nat):(s.come k).n=s.n:=by unfold BaySt.come;split<;>rfl
theorem cutTo_n(s:BaySt)(ks:List (List Bool)):∀k,(s.cutTo ks k).n=s.n
  |0=>rfl
  |k+1=>by
    show(((s.cutTo ks k).crashAt k (ks.getD k [])).come k).n=s.n
    rw[come_n];exact cutTo_n s ks k
theorem come_cnt(s:BaySt)(k:Nat):(s.come k).cnt=s.cnt:=by unfold BaySt.come;split<;>rfl
theorem cutTo_cnt(s:BaySt)(ks:List (List Bool)):∀k,(s.cutTo ks k).cnt=s.cnt
  |0=>rfl
  |k+1=>by
    show(((s.cutTo ks k).crashAt k (ks.getD k [])).come k).cnt=s.cnt
    rw[come_cnt];exact cutTo_cnt s ks k
theorem come_pos(s:BaySt)(k q:Nat)(hq:q/3≠k):(s.come k).pos q=s.pos q:=by
  unfold BaySt.come;split
  · rfl
  · show(if q=k*3 then _ else if q=k*3+2 then none else s.pos q)=_
    rw[Ze (by omega),Ze (by omega)]
theorem cutTo_pos(s:BaySt)(ks:List (List Bool)):∀k q,k≤q/3->(s.cutTo ks k).pos q=s.pos q
  |0,q,_=>rfl
  |k+1,q,h=>by
    show(((s.cutTo ks k).crashAt k (ks.getD k [])).come k).pos q=s.pos q
    rw[come_pos _ _ _ (by omega)];show(if q=k*3 then _ else (s.cutTo ks k).pos q)=_
    rw[Ze (by omega)];exact cutTo_pos s ks k q (by omega)
def BaySt.smallIn(s:BaySt)(m:Nat):Prop:=∀k,k<s.n->∀x,s.pos (k*3)=some x->x.d.cache.length≤m
theorem BaySt.small.in(h:s.small m):s.smallIn m:=fun k hk x hx=>h (k*3) (by omega) x hx
theorem crashAt_none(h:s.pos (k*3)=none):s.crashAt k l=s:=by
  unfold BaySt.crashAt;have e:(fun q=>if q=k*3 then (s.pos (k*3)).map (·.crash l)else s.pos q)=s.pos:=by
    funext q;by_cases hq:q=k*3
    · subst hq;rw[Zf rfl,h];rfl
    · rw[Ze hq]
  rw[e]
theorem crashAt_some(h:s.pos (k*3)=some x):s.crashAt k l={s with pos:=fun q=>if q=k*3 then some (x.crash l)else s.pos q}:=by
  unfold BaySt.crashAt;rw[h];rfl
theorem come_none(h:s.pos (k*3+2)=none):s.come k=s:=by
  unfold BaySt.come;rw[h]
def CutAt(w:World)(b:Nat)(T:Nat->Nat)(s':BaySt)(wr:World):Prop:=∃gs ptr tg dp,BayIn wr T b s' gs ptr tg dp/\Chg (fun q=>T q≠0) w wr
theorem bay_cut0(h:BayAt w T b s)(v:Value)(ks:List (List Bool))(hv:Bitzz w T v ks)(hm:s.smallIn 1000000)(hno:∀k,s.pos (k*3+2)=none):
    Calls Zw 37 #[Zs (some ⟨b,0,none⟩),v] w fun e w'=>e=Zu (.tuple #[])/\BayAt w' T b (s.cut ks)/\Chg (fun q=>T q≠0) w w':=by
  obtain⟨gs0,ptr0,tg0,dp0,h⟩:=h;obtain⟨va,vc,rfl⟩:=hv.shape;have c0:w.cell? ⟨b,0,none⟩=some (Zt (some ⟨gs0,0,none⟩) s.n s.n):=h.bay.cell 0;have hfew:=h.few;have hkl:ks.length≤9223372036854775807:=by obtain⟨_,_,_,q,_⟩:=hv;exact q
  have HV:=hid hv;have HM:=hid hm;have HNO:=hid hno;have HB0:=hid h;have htb:=hid h.tb;clear h hv hm hno;go_enter Tryz.func37,Tryz.ntmps37;go_wp2;go_loopw [12] (fun q wr=>∃k:Nat,k≤s.n/\q=O Z k/\CutAt w b T (s.cutTo ks k) wr) (fun q _=>s.n-(intOf q).toNat);case atStart=>exact⟨0,by omega,rfl,gs0,ptr0,tg0,dp0,HB0.out,Zl _ _⟩
  case round=>
    clear c0;obtain⟨k,hk,rfl,gs,ptr,tg,dp,hB,hch⟩:=hrel;have hn:(s.cutTo ks k).n=s.n:=cutTo_n s ks k;have c0:wr.cell? ⟨b,0,none⟩=some (Zt (some ⟨gs,0,none⟩) s.n s.n):=by rw[<-hn];exact hB.bay.cell 0
    have HN:=hid hn;have HB:=hid hB;have HC:=hid hch;have HVr:=hid (HV.out.keep hch (fun k h=>h));by_cases hkn:k<s.n
    · have K1:Hid (k+1≤s.n):=hkn
      have K3:Hid (k*3+2<3*(s.cutTo ks k).n):=by show k*3+2<3*(s.cutTo ks k).n;rw[hn];omega
      have a0:wr.cell? ⟨gs,k*3,none⟩=some (pcell (ptr (k*3))):=(hB.slots.cell (k*3)).trans (Zbh _ _ _ (by rw[hn];omega));have a2:wr.cell? ⟨gs,k*3+2,none⟩=some (pcell (ptr (k*3+2))):=(hB.slots.cell (k*3+2)).trans (Zbh _ _ _ (by rw[hn];omega));have fs0:=hB.slots.free (k*3);have fs2:=hB.slots.free (k*3+2);clear hch hn;cases hx:(s.cutTo ks k).pos (k*3)with
      |none=>
        have hy:(s.cutTo ks k).pos (k*3+2)=none:=(cutTo_pos s ks k (k*3+2) (by omega)).trans (HNO.out k);have P0:=hid hx;rw[hB.none' (k*3) (by have:=K3.out;omega) hx]at a0;clear hx;rw[hB.none' (k*3+2) K3.out hy]at a2;have P2:=hid hy;clear hB hy;unfold pcell at a0 a2;simp only [Option.map_none]at a0 a2;go_wp2;have HB3:BayIn wr T b ((s.cutTo ks k).crashAt k (ks.getD k [])) gs ptr tg dp:=by rw[crashAt_none P0.out];exact HB.out
        have HC3:=HC.out;have Q2:((s.cutTo ks k).crashAt k (ks.getD k [])).pos (k*3+2)=(s.cutTo ks k).pos (k*3+2):=Ze (by omega);rw[P2.out]at Q2;refine⟨⟨k+1,K1.out,by go_num,gs,ptr,tg,dp,?_,HC3⟩,by simp[intOf];omega⟩;show BayIn _ T b (((s.cutTo ks k).crashAt k (ks.getD k [])).come k) gs ptr tg dp
        rw[come_none Q2];exact HB3
      |some x=>
        by_cases hkk:k<ks.length
        · have hy:(s.cutTo ks k).pos (k*3+2)=none:=(cutTo_pos s ks k (k*3+2) (by omega)).trans (HNO.out k)
          have p0:(s.cutTo ks k).pos (k*3)=some x:=hx;obtain⟨dv,e1,e2⟩:=hB.some' (k*3) (by have:=K3.out;omega) x p0;have d0:wr.cell? ⟨dv,0,none⟩=some (Zs (some ⟨dp (k*3),0,none⟩)):=e2.dev.cell 0;rw[e1]at a0;have hsm:x.d.cache.length≤1000000:=HM.out k hkn x (by rw[<-cutTo_pos s ks k (k*3) (by omega)];exact p0);obtain⟨va',vc',q1,q2,q3⟩:=HVr.out;simp only [Zn,true_and]at q1;obtain⟨rfl,rfl⟩:=q1;rcases q3 with q3|⟨kb,ko,rfl,q4,q5,q6⟩
          · rw[q3]at hkk;simp at hkk
          obtain⟨u,u1,u2⟩:=q6 k hkk;obtain⟨ua,uc,rfl⟩:=u2.shape;have eg:ks.getD k []=ks[k]:=by rw[Zi,Zh hkk];rfl
          have HCR:=hid (disk_crash T (tg (k*3)) (dp (k*3)) x.d _ ks[k] wr e2.disk e2.two hB.virgin hsm u2);clear q6;generalize ks[k].length=un at*;rw[<-eg]at HCR;clear u2 eg;have E2:=hid e2;have P0:=hid p0;have E1:=hid e1;clear hsm e2 p0 hx e1;rw[hB.none' (k*3+2) K3.out hy]at a2;have P2:=hid hy;clear hB hy;unfold pcell at a0 a2;simp only [Option.map_some,Option.map_none]at a0 a2;go_wp2_with (go_at_call 88;refine HCR.out.mono ?_;rintro e w2 ⟨rfl,r1,r2⟩;have HB2:=hid (HB.out.used (i:=k*3) (x:=x) (x':=x.crash (ks.getD k [])) (by have:=K3.out;omega) P0.out E1.out ⟨E2.out.dev.mod r2 (fun e=>by have:=E2.out.tag;have:=E2.out.two;omega),E2.out.tag,E2.out.two,r1,E2.out.lo,E2.out.hi⟩ (r2.mono fun q hq=>.inl hq));have b2:w2.cell? ⟨gs,k*3+2,none⟩=some (pcell (ptr (k*3+2))):=(HB2.out.1.slots.cell (k*3+2)).trans (Zbh _ _ _ K3.out);have b0:w2.cell? ⟨gs,k*3,none⟩=some (pcell (ptr (k*3))):=(HB2.out.1.slots.cell (k*3)).trans (Zbh _ _ _ (by have:=K3.out;show k*3<3*(s.cutTo ks k).n;omega));have g0:=HB2.out.1.slots.free (k*3);have g2:=HB2.out.1.slots.free (k*3+2);rw[E1.out]at b0;rw[HB.out.none' (k*3+2) K3.out P2.out]at b2;unfold pcell at b0 b2;simp only [Option.map_some,Option.map_none]at b0 b2);have HB3:BayIn w2 T b ((s.cutTo ks k).crashAt k (ks.getD k [])) gs ptr tg dp:=by rw[crashAt_some P0.out];exact HB2.out.1
          have HC3:=HC.out.trans HB2.out.2;have Q2:((s.cutTo ks k).crashAt k (ks.getD k [])).pos (k*3+2)=(s.cutTo ks k).pos (k*3+2):=Ze (by omega);rw[P2.out]at Q2;refine⟨⟨k+1,K1.out,by go_num,gs,ptr,tg,dp,?_,HC3⟩,by simp[intOf];omega⟩;show BayIn _ T b (((s.cutTo ks k).crashAt k (ks.getD k [])).come k) gs ptr tg dp
          rw[come_none Q2];exact HB3
        · have hy:(s.cutTo ks k).pos (k*3+2)=none:=(cutTo_pos s ks k (k*3+2) (by omega)).trans (HNO.out k)
          have p0:(s.cutTo ks k).pos (k*3)=some x:=hx;obtain⟨dv,e1,e2⟩:=hB.some' (k*3) (by have:=K3.out;omega) x p0;have d0:wr.cell? ⟨dv,0,none⟩=some (Zs (some ⟨dp (k*3),0,none⟩)):=e2.dev.cell 0;rw[e1]at a0;have hsm:x.d.cache.length≤1000000:=HM.out k hkn x (by rw[<-cutTo_pos s ks k (k*3) (by omega)];exact p0);have eg:ks.getD k []= []:=by rw[Zi,List.getElem?_eq_none (by omega)];rfl
          have HCR:=hid (disk_crash T (tg (k*3)) (dp (k*3)) x.d _ [] wr e2.disk e2.two hB.virgin hsm (Bitz.nil wr T));rw[<-eg]at HCR;clear eg;have E2:=hid e2;have P0:=hid p0;have E1:=hid e1;clear hsm e2 p0 hx e1;rw[hB.none' (k*3+2) K3.out hy]at a2;have P2:=hid hy;clear hB hy;unfold pcell at a0 a2;simp only [Option.map_some,Option.map_none]at a0 a2;go_wp2_with (go_at_call 88;refine HCR.out.mono ?_;rintro e w2 ⟨rfl,r1,r2⟩;have HB2:=hid (HB.out.used (i:=k*3) (x:=x) (x':=x.crash (ks.getD k [])) (by have:=K3.out;omega) P0.out E1.out ⟨E2.out.dev.mod r2 (fun e=>by have:=E2.out.tag;have:=E2.out.two;omega),E2.out.tag,E2.out.two,r1,E2.out.lo,E2.out.hi⟩ (r2.mono fun q hq=>.inl hq));have b2:w2.cell? ⟨gs,k*3+2,none⟩=some (pcell (ptr (k*3+2))):=(HB2.out.1.slots.cell (k*3+2)).trans (Zbh _ _ _ K3.out);have b0:w2.cell? ⟨gs,k*3,none⟩=some (pcell (ptr (k*3))):=(HB2.out.1.slots.cell (k*3)).trans (Zbh _ _ _ (by have:=K3.out;show k*3<3*(s.cutTo ks k).n;omega));have g0:=HB2.out.1.slots.free (k*3);have g2:=HB2.out.1.slots.free (k*3+2);rw[E1.out]at b0;rw[HB.out.none' (k*3+2) K3.out P2.out]at b2;unfold pcell at b0 b2;simp only [Option.map_some,Option.map_none]at b0 b2);have HB3:BayIn w2 T b ((s.cutTo ks k).crashAt k (ks.getD k [])) gs ptr tg dp:=by rw[crashAt_some P0.out];exact HB2.out.1
          have HC3:=HC.out.trans HB2.out.2;have Q2:((s.cutTo ks k).crashAt k (ks.getD k [])).pos (k*3+2)=(s.cutTo ks k).pos (k*3+2):=Ze (by omega);rw[P2.out]at Q2;refine⟨⟨k+1,K1.out,by go_num,gs,ptr,tg,dp,?_,HC3⟩,by simp[intOf];omega⟩;show BayIn _ T b (((s.cutTo ks k).crashAt k (ks.getD k [])).come k) gs ptr tg dp
          rw[come_none Q2];exact HB3
    · obtain rfl:k=s.n:=by omega
      have f1:=hB.bay.free 1;have f2:=hB.bay.free 2;have c1:wr.cell? ⟨b,1,none⟩=some (.bool (s.cutTo ks s.n).dark):=hB.bay.cell 1;have c2:wr.cell? ⟨b,2,none⟩=some (O Z (s.cutTo ks s.n).trip):=hB.bay.cell 2;clear hB hn;go_wp2;go_end0;have hset:Chg (fun k=>k=b) wr ((wr.setCell ⟨b,1,none⟩ (.bool false)).setCell ⟨b,2,none⟩ (O Z (-1))):=Zk (S:=fun k=>k=b) (Zk (S:=fun k=>k=b) (Zl _ _) ⟨b,1,none⟩ (.inl rfl) _) ⟨b,2,none⟩ (.inl rfl) _;refine⟨rfl,⟨gs,ptr,tg,dp,HB.out.cells' hset false (-1) (s.cutTo ks s.n).cnt ((HB.out.bay.set 1 (.bool false)).set 2 (O Z (-1))) HB.out.cl (by omega) (by omega)⟩,HC.out.trans (hset.mono fun q hq=> ?_)⟩;subst hq;rw[htb.out];simp
theorem Zyg(u v:Value)(l m:List UInt8)(w:World)(hl:l.length≤9223372036854775807)(hm:m.length≤9223372036854775807)(hu:Seg w u l)(hv:Seg w v m):
    Calls Zw 28 #[u,v] w fun e w'=>e=Zu (.bool (decide (l=m)))/\Below w.heap.size w w':=by
  obtain⟨a,c,rfl⟩:=hu.shape;obtain⟨b,d,rfl⟩:=hv.shape;by_cases hlen:l.length=m.length
  · have hne:((l.length:Int) !=(m.length:Int))=false:=by simp;omega
    go_enter Tryz.func28,Tryz.ntmps28;go_wp2_with fail;go_loopw [5] (fun i wr=>∃k:Nat,k≤l.length/\i=O Z k/\l.take k=m.take k/\Below w.heap.size w wr) (fun i _=>l.length-(intOf i).toNat);case atStart=>exact⟨0,Nat.zero_le _,rfl,rfl,Zb _ _⟩
    case round=>
      obtain⟨k,hk,rfl,htake,hbw⟩:=hrel;have Hlen:=hid hlen;have Htake:=hid htake;clear htake hlen;by_cases hlt:k<l.length
      · have hlt':k<m.length:=by have:=Hlen.out;omega
        obtain⟨b1,o1,c1,e1,hb1,h1⟩:=Seg.full (hu.below hbw) (by omega);obtain⟨b2,o2,c2,e2,hb2,h2⟩:=Seg.full (hv.below hbw) (by omega);simp only [Zn]at e1 e2;obtain⟨rfl,_,rfl⟩:=e1;obtain⟨rfl,_,rfl⟩:=e2;have c1:=h1 k hlt;have c2:=h2 k hlt';have hx:=Zyn l[k] m[k];clear h1 h2 hu hv;by_cases heq:l[k]=m[k]
        · rw[decide_eq_true heq]at hx
          have Hn:=hid (Zxm Htake.out hlt hlt' heq);generalize l[k]=x at*;generalize m[k]=y at*;clear heq;go_wp2;go_quiet (fail);go_wp2;go_roundw;case rel=>exact⟨k+1,by omega,by go_num,Hn.out,below_drewN hbw _⟩
          case measure=>simp[intOf];omega
        · rw[decide_eq_false heq]at hx
          have Hn:=hid (show decide (l=m)=false from decide_eq_false fun e=>heq (by subst e;rfl));generalize l[k]=x at*;generalize m[k]=y at*;clear heq;go_wp2;go_quiet (fail);go_wp2;go_ret;exact⟨by rw[Hn.out];rfl,below_drewN hbw _⟩
      · have Hn := hid (show decide (l = m) = true from decide_eq_true (by
          have h:=Htake.out
          rw[List.take_of_length_le (by omega),List.take_of_length_le (by have:=Hlen.out;omega)]at h
          exact h))
        clear hu hv
        go_wp2
        go_ret
        exact⟨by rw[Hn.out];rfl,hbw⟩
  · have hne:((l.length:Int) !=(m.length:Int))=true:=by simp;omega
    have Hn:=hid (show decide (l=m)=false from decide_eq_false fun e=>hlen (by rw[e]));clear hlen hu hv;go_enter Tryz.func28,Tryz.ntmps28;go_wp2;go_ret;exact⟨by rw[Hn.out];rfl,Zb _ _⟩
theorem cur_length{n:Nat}(h:CalmDev x n)(z:Nat):(x.d.cur z).length=128:=by
  unfold Dsk.cur;cases hw:waits x.d.cache z with
  |some s=>
    unfold waits at hw;cases hf:x.d.cache.reverse.find? (fun y=>decide ((y.1:Int)=z))with
    |none=>rw[hf]at hw;cases hw
    |some y=>
      rw[hf]at hw;simp only [Option.map_some,Zg]at hw;have:=List.mem_of_find?_eq_some hf;show s.length=128
      rw[<-hw];exact h.csecs y (List.mem_reverse.1 this)
  |none=>
    show(x.d.last.getD z zsec).length=128
    rw[Zi];cases hz:x.d.last[z]? with
    |none=>simp[zsec]
    |some s=>exact h.secs s (List.mem_of_getElem? hz)
theorem bay_trip(h:BayAt w T b s)(n:Int)(hn:n≤9223372036854775807):
    Calls Zw 38 #[Zs (some ⟨b,0,none⟩),O Z n] w fun e w'=>e=Zu (.int .u16 (if n<0 then 1 else if s.dark=true then 50 else 0))/\BayAt w' T b (if n<0 then s else if s.dark=true then s else {s with trip:=n})/\Chg (fun q=>q=b) w w':=by
  obtain⟨gs,ptr,tg,dp,h⟩:=h;have HB:=hid h;have c1:w.cell? ⟨b,1,none⟩=some (.bool s.dark):=h.bay.cell 1;have c2:w.cell? ⟨b,2,none⟩=some (O Z s.trip):=h.bay.cell 2;have f2:=h.bay.free 2;clear h;by_cases hneg:n<0
  · rw[Zf hneg,Zf hneg]
    go_enter Tryz.func38,Tryz.ntmps38;go_wp2;go_ret;exact⟨rfl,⟨gs,ptr,tg,dp,HB.out⟩,Zl _ _⟩
  · rw[Ze hneg,Ze hneg]
    cases hd:s.dark
    · rw[hd]at c1
      rw[Ze (by simp),Ze (by simp)];go_enter Tryz.func38,Tryz.ntmps38;go_wp2;go_ret;have hc:Chg (fun q=>q=b) w (w.setCell ⟨b,2,none⟩ (O Z n)):=Zk (S:=fun q=>q=b) (Zl _ _) ⟨b,2,none⟩ (.inl rfl) _;refine⟨rfl,⟨gs,ptr,tg,dp,?_⟩,hc⟩;have h2:=HB.out.cells' hc s.dark n s.cnt (HB.out.bay.set 2 (O Z n)) HB.out.cl (by omega) hn;rw[hd]at h2;exact h2
    · rw[hd]at c1
      rw[Zf rfl,Zf rfl];go_enter Tryz.func38,Tryz.ntmps38;go_wp2;go_ret;exact⟨rfl,⟨gs,ptr,tg,dp,HB.out⟩,Zl _ _⟩
section
section
variable {w0 W w':World} {T T':Nat->Nat} {A:Adr} {R R':RS} {V:Nat->Nat->Sec} {a b:Nat}
theorem Stp.ofBay(hc:Chg (fun q=>T q≠0) W w'):Stp W T A w' T:=⟨fun _ _=>rfl,hc.mono fun q e=>.inl e⟩
theorem Bud.placed(h:Bud R a b){e1 e2:Nat}(hc:Cost R R' k (R.wait.length+e1) e2 (R.wait.length+e1) 0)(hg:R.wait.length≤512)(hw:R'.wait= []):Bud R' (a+k+512+e1+e2) (b+e1):=by
  obtain⟨h0,h1,h2,h3,m,h4,h5⟩:=h;obtain⟨k1,k2,k3,k4,k5,-⟩:=hc;exact⟨by omega,by omega,by omega,by omega,_,k4 m h4,by rw[hw];simp;omega⟩
end
theorem l_empty(h:LAt w0 W T A R V)(hb:Bud R a b)(hin:Within a b):
    Calls Zw 23 #[Zs (some ⟨A.q,0,none⟩)] W fun e w'=>e=Zu (.agg #[O Z 0,.int .u16 0])/\∃T' R',LAt w0 w' T' A R' V/\Stp W T A w' T'/\Bud R' (a+1000) (b+1)/\Same R R'/\R'.wait= []/\R'.used=0/\EmptyR R R':=by
  obtain⟨lg,vw,X,hr⟩:=h.rw;have h1:=hin.a;have h2:=hin.b;have h31:=hb.c1;have h32:=hb.c2;refine(Zpk hr h.good.ready h.good.jrn (by omega) (by omega) (hb.small' (by omega))).mono ?_;rintro e w' ⟨rfl,R',vw',X',he,T',k1,k2,k3⟩;have hst:Stp W T A w' T':=⟨k2,k3⟩;obtain⟨k4,k5⟩:=h.next hst;obtain⟨g',hw',hu',-⟩:=h.good.empty he;have c1:=h.good.cost_empty he;exact⟨rfl,T',R',⟨⟨_,vw',X',k1⟩,g',.inr hw',k4,k5⟩,hst,(hb.placed (k:=0) (e1:=1) (e2:=20) c1 h.good.few hw').mono (by omega) (by omega),c1.same (Zp3 h.good he),hw',hu',he⟩
end
section
open Go.RowKit Go.ChangeShapes Go.WideShapes Go.ChangeAt Go.Deep
theorem Zxo{B n:Nat}{l:List UInt8}(h:w.ownsRow B 5 1 v n (ucells l)):Seg w v l:=by
  have hl:l.length=n:=by
    have:=h.1;rw[Zag]at this;omega
  subst hl;exact Zao (base:=B) h
theorem Zyk{u:Value}{l:List UInt8}(hl:l.length≤9223372036854775807)(hu:Seg w u l)(hv:Seg w v l):
    Calls Zw 28 #[u,v] w fun e w'=>e=Zu (.bool true)/\Below w.heap.size w w':=
  (Zyg u v l l w hl hl hu hv).mono fun e w' ⟨x1,x2⟩=>⟨by rw[x1];simp,x2⟩
end
def Clean(R:RS):Prop:=∀m,m<R.M->R.dn m 0=false->∃x,R.s.pos (m*3)=some x/\x.d.cache= []/\CalmDev x (1+R.S*R.C)
theorem Good.clean{R':RS}(h:Good R V)(he:EmptyR R R'):Clean R':=by
  obtain⟨R2,hp,rfl⟩:=he;obtain⟨h2,hw⟩:=h.synced.placed hp;have hd:=Zel h2.geo h2.n h2.fit R2.M (Za _);have h3:=h2.dries;have hr:=Zd5 h3.n h3.fit;intro m hm hdn;have hm:m<R2.M:=hm;have hdn:R2.dn m 0=false:=hdn;obtain⟨x,k1,k2⟩:=hd.dry m hm hdn;obtain⟨y,e1,e2⟩:=hd.fit.dev m (by rw[hd.n,h2.n];omega) (RS.G_up h2.geo hm hdn);have hxy:y=x:=Option.some.inj (e1.symm.trans k1);subst hxy;refine⟨y,(hr.pos (m*3) (fun e=>by have:m*3=R2.M*3:=e;omega)).trans k1,k2,?_⟩;unfold RS.szs at e2;rw[Zf hm]at e2;exact e2
abbrev gBox(g M C S:Nat):Nat×Array Value×TypeId:=(g,#[O Z M,O Z C,O Z S],23)
theorem Zwe{pp cp sp:Nat}(h:LAt w0 W T A R V)(k2:At W pp (pairCells A cp sp) 39)(k3:T pp=0)(hg:At w0 g #[O Z M,O Z C,O Z S] 23):Hb w0 W T A R [pairBox pp A cp sp,gBox g M C S]:=by
  refine⟨h.hn,fun x hx=> ?_⟩;rcases List.mem_cons.1 hx with e|e
  · subst e
    exact⟨k2,k3,(by decide:(101:TypeId)≠39),(by decide:(3:TypeId)≠39),(by decide:(133:TypeId)≠39),(by decide:(203:TypeId)≠39)⟩
  · rcases List.mem_cons.1 e with e|e
    · subst e
      exact⟨hg.below h.bel hg.lt,(h.old _ hg.lt).1,(by decide:(101:TypeId)≠23),(by decide:(3:TypeId)≠23),(by decide:(133:TypeId)≠23),(by decide:(203:TypeId)≠23)⟩
    · cases e
section
structure OwnT (W:World) (T:Nat->Nat) (n:Nat) (e:TypeId) (v:Value) (xs:List Value):Prop where
  own:W.ownsRow n e 1 v xs.length xs
  tag:∀g,v.ownBlock=some g->T g=0
section
variable {W W':World} {T T':Nat->Nat} {n:Nat} {e ei eu:TypeId} {v u x:Value} {xs ys:List Value} {A:Adr} {S:Nat->Prop} {k:Nat} {F:Nat->List Value}
theorem OwnT.mod(h:OwnT W T n e v xs)(hc:Chg S W W')(hS:∀g,v.ownBlock=some g->¬S g)(hT:∀q,q<W.heap.size->T' q=T q):OwnT W' T' n e v xs:=
  ⟨Zad h.own hc hS,fun g hg=>(hT g (h.own.lt g hg).2).trans (h.tag g hg)⟩
theorem OwnT.below(h:OwnT W T n e v xs)(hb:Below W.heap.size W W'):OwnT W' T n e v xs:=h.mod (Zm hb (fun _=>False)) (fun _ _ e=>e) (fun _ _=>rfl)
theorem OwnT.step(h:OwnT W T n e v xs)(s:Stp W T A W' T')(hA:∀q,A.has q->q<n):OwnT W' T' n e v xs:=
  h.mod s.chg (fun g hg e=>e.elim (fun e=>e (h.tag g hg)) fun e=>by have:=hA g e;have:=(h.own.lt g hg).1;omega) s.tags
end
def imgB(s:BaySt)(j:Nat):List UInt8:=match s.pos (j*3)with|some x=>x.d.last.flatten|none=> []
theorem Zx1(hf:Fit s G sz)(hm:m<s.n)(hg:G m)(hd:s.dry m):∃L:List Sec,imgB s m=L.flatten/\L.length=sz m/\∀z,z<sz m->L[z]?=some (s.sec m z):=by
  obtain⟨L,h1,h2,-,h4⟩:=Zrc hf hm hg hd;obtain⟨x,hx,hc⟩:=hf.dev m hm hg;rw[Zpl hm hx,Ze (by rw[hc.failed];simp)]at h1;refine⟨L,?_,h2,h4⟩;have e:x.d.last=L:=Option.some.inj (congrArg Prod.snd h1);unfold imgB;rw[hx,<-e]
structure HoP (R:RS) (V:Nat->Nat->Sec) (M C S m a b:Nat):Prop where
  good:Good R V
  wait:R.wait= []
  bud:Bud R a b
  fit:Fit R.s (fun _=>True) R.szs
  down:∀r,R.dn m r=true
  m:m<M
  M:R.M=M
  C:R.C=C
  S:R.S=S
section
variable {R:RS} {V:Nat->Nat->Sec} {M C S m a b:Nat}
theorem HoP.n(h:HoP R V M C S m a b):R.s.n=M+1:=by rw[h.good.n,h.M]
theorem HoP.anew(h:HcP R V M C S ring lazy a b)(hw:R.wait= [])(hm:m<M):HoP (R.anew m) V M C S m a b:=by
  obtain⟨g1,g2,g3⟩:=h.good.anew h.up (m:=m) (by rw[h.M];exact hm);obtain⟨b0,b1,b2,b3,x,b4,b5⟩:=h.bud;refine⟨g1,hw,⟨b0,b1,b2,b3,x,fun i hi y hy=> ?_,b5⟩,g2,g3,hm,h.M,h.C,h.S⟩;change (if i=m*3 then some _ else R.s.pos i)=some y at hy;by_cases e:i=m*3
  · rw[Zf e]at hy
    simp only [Zg]at hy;subst hy;exact Nat.zero_le _
  · rw[Ze e]at hy
    exact b4 i hi y hy
theorem HoP.mono{a' b':Nat}(h:HoP R V M C S m a b)(ha:a≤a')(hb:b≤b'):HoP R V M C S m a' b':=
  ⟨h.good,h.wait,h.bud.mono ha hb,h.fit,h.down,h.m,h.M,h.C,h.S⟩
theorem HoP.healed(h:HoP R V M C S m a b)(k:Healed R V m q C s'):HoP {R with s:=s'} V M C S m (a+1000) (b+16):=by
  have hp:=Zbe h.good.geo;have hgi:=(Zam R.M R.C R.S).1 h.good.geo;have hM:=h.M;have hC:=h.C;have hP:C*(R.M-1)≤16*16:=Nat.mul_le_mul (by omega) (by omega);obtain⟨b0,b1,b2,b3,x,b4,b5⟩:=h.bud;have k0:=k.c0;have k1:=k.c1;have k2:=k.c2;refine⟨k.good h.good fun j _=>h.down _,h.wait,⟨?_,?_,?_,?_,x+C,k.small x b4,?_⟩,⟨k.fit.dark,k.fit.trip,fun j hj _=> ?_⟩,h.down,h.m,h.M,h.C,h.S⟩
  · show s'.cnt 0≤_;omega
  · show s'.cnt 1≤_;omega
  · show s'.cnt 2≤_;omega
  · show R.next≤_;omega
  · show x+C+R.wait.length≤_;omega
  · by_cases e:j=m
    · exact k.fit.dev j hj (.inr e)
    · rw[k.pos (j*3) (by omega)]
      have hj':j<s'.n:=hj;exact h.fit.dev j (by rw[<-k.n];exact hj') trivial
end
section
variable {w0 W W':World} {T T':Nat->Nat} {A:Adr} {R:RS} {V:Nat->Nat->Sec} {L:List (Nat×Array Value×TypeId)} {M C S m a b:Nat}
structure Lo (w0 W:World) (T:Nat->Nat) (A:Adr) (R:RS) (n:Nat) (lg:Option Nat) (vw:Value) (X:List OP) (L:List (Nat×Array Value×TypeId)):Prop where
  hb:Hb w0 W T A R L
  rw:RwIn W T A R lg vw X
  low:RwLow A vw X n
  box:∀x∈L,x.1<n
  le:w0.heap.size≤n
  sz:n≤W.heap.size
theorem Hb.lo(h:Hb w0 W T A R L):∃lg vw X,Lo w0 W T A R W.heap.size lg vw X L:=by
  obtain⟨lg,vw,X,hr⟩:=h.hn.rw;exact⟨lg,vw,X,h,hr,hr.low,fun x hx=>(h.box x hx).1.lt,h.hn.bel.size,Za _⟩
section
variable {n:Nat} {lg:Option Nat} {vw:Value} {X:List OP}
theorem Lo.has(h:Lo w0 W T A R n lg vw X L):∀q,A.has q->q<n:=fun q e=>by
  have:=h.low;rcases e with rfl|rfl|rfl|rfl
  · exact this.q
  · exact this.wp
  · exact this.rp
  · exact this.fg
end
theorem Zyi(hg:geoIs M C S=true)(hP:S*C=P)(W:World):Calls Zw 24 #[.agg #[O Z M,O Z C,O Z S]] W fun e w'=>e=Zu (O Z (P:Int))/\Below W.heap.size W w':=by
  have:=Zo0 M C S W;rw[Zg0 hg,hP]at this;exact this
theorem HcP.geoM(h:HcP R V M C S ring lazy a b):geoIs M C S=true:=by
  have:=h.good.geo;rwa [h.M,h.C,h.S]at this
end
end
section
theorem cutTo_alone(s:BaySt)(ha:∀q,q%3≠0->s.pos q=none)(ks:List (List Bool)):∀k q,(s.cutTo ks k).pos q=if q%3=0/\q/3<k then (s.pos q).map (fun x=>Dev.crash x (ks.getD (q/3) []))else s.pos q
  |0,q=>by rw[Ze (by omega)];rfl
  |k+1,q=>by
    have ih:=cutTo_alone s ha ks k;have hn:((s.cutTo ks k).crashAt k (ks.getD k [])).pos (k*3+2)=none:=by
      show(if k*3+2=k*3 then _ else (s.cutTo ks k).pos (k*3+2))=none
      rw[Ze (by omega),ih,Ze (by omega)];exact ha _ (by omega)
    have hc:((s.cutTo ks k).crashAt k (ks.getD k [])).come k=(s.cutTo ks k).crashAt k (ks.getD k []):=by
      unfold BaySt.come;rw[hn]
    show(((s.cutTo ks k).crashAt k (ks.getD k [])).come k).pos q=_
    rw[hc];show(if q=k*3 then ((s.cutTo ks k).pos (k*3)).map (fun x=>Dev.crash x (ks.getD k []))else (s.cutTo ks k).pos q)=_
    by_cases e:q=k*3
    · subst e
      rw[Zf rfl,Zf (by omega),ih,Ze (by omega),show k*3/3=k by omega]
    · rw[Ze e,ih]
      by_cases h:q%3=0/\q/3<k
      · rw[Zf h,Zf (by omega)]
      · rw[Ze h,Ze (by omega)]
theorem cut_pos(s:BaySt)(ha:∀q,q%3≠0->s.pos q=none)(ks:List (List Bool))(k:Nat)(hk:k<s.n):(s.cut ks).pos (k*3)=(s.pos (k*3)).map (fun x=>Dev.crash x (ks.getD k [])):=by
  have:=cutTo_alone s ha ks s.n (k*3);rw[Zf (by omega),show k*3/3=k by omega]at this;exact this
theorem crash_calm{n:Nat}(h:CalmDev x n)(l:List Bool):CalmDev (x.crash l) n:=h.settled (fun i=>l.getD i false)
theorem crash_dry(h:x.d.cache= [])(l:List Bool):x.crash l=x:=by
  obtain⟨⟨last,cache,failed⟩,worn,left⟩:=x;obtain rfl:cache= []:=h;rfl
theorem cut_fit(h:Fit s G sz)(ha:∀q,q%3≠0->s.pos q=none)(ks:List (List Bool)):Fit (s.cut ks) G sz:=by
  refine⟨rfl,rfl,fun k hk hg=> ?_⟩;have hk':k<s.n:=by
    have e:(s.cut ks).n=s.n:=cutTo_n s ks s.n;omega
  obtain⟨x,h1,h2⟩:=h.dev k hk' hg;exact⟨x.crash (ks.getD k []),by rw[cut_pos s ha ks k hk',h1];rfl,crash_calm h2 _⟩
theorem cut_small(ha:∀q,q%3≠0->s.pos q=none)(ks:List (List Bool)){n:Nat}(h:s.small n):(s.cut ks).small n:=fun i hi x hx=>by
  have hi':i<3*s.n:=by
    have e:(s.cut ks).n=s.n:=cutTo_n s ks s.n;omega
  have hx':(s.cutTo ks s.n).pos i=some x:=hx;rw[cutTo_alone s ha ks]at hx';by_cases e:i%3=0/\i/3<s.n
  · rw[Zf e]at hx'
    cases hp:s.pos i with
    |none=>rw[hp]at hx';cases hx'
    |some y=>
      rw[hp]at hx';obtain rfl:=Option.some.inj hx';exact Nat.zero_le _
  · rw[Ze e]at hx'
    exact h i hi' x hx'
section
variable {R:RS} {V:Nat->Nat->Sec} {M C S ring:Nat} {lazy:Bool} {a b:Nat}
end
end
section
section
variable {w0 W:World} {T:Nat->Nat} {A:Adr} {R:RS} {V:Nat->Nat->Sec} {L:List (Nat×Array Value×TypeId)} {M C S ring:Nat} {lazy:Bool} {m f a b:Nat}
theorem hc_empty(h:Hb w0 W T A R L)(hp:HcP R V M C S ring lazy a b)(hin:Within a b):
    Calls Zw 23 #[Zs (some ⟨A.q,0,none⟩)] W fun e w'=>e=Zu (.agg #[O Z 0,.int .u16 0])/\∃T' R',Hb w0 w' T' A R' L/\HcP R' V M C S ring lazy (a+1000) (b+1)/\R'.wait= []/\Clean R':=by
  refine(l_empty (h.lat hp.good hp.idle) hp.bud hin).mono ?_;rintro e w' ⟨rfl,T',R',hl,hs,hb,hsm,hw,-,he⟩;exact⟨rfl,T',R',h.step hl.hn hs,hp.next hsm hl.good hl.idle hb,hw,hp.good.clean he⟩
theorem Hb.has(h:Hb w0 W T A R L):∀q,A.has q->q<W.heap.size:=by
  obtain⟨lg,vw,X,hl⟩:=h.lo;exact hl.has
end
end
section
def BaySt.lit(s:BaySt):BaySt:={s with dark:=false,trip:= -1}
structure LiveT (s:BaySt):Prop where
  dark:s.dark=false
  trip: -1≤s.trip
structure Dim (s s':BaySt) (c:Nat):Prop where
  n:s'.n=s.n
  pos:s'.pos=s.pos
  cnt:∀j,s'.cnt j≤s.cnt j+(c:Int)
theorem start_t{n:Nat}(ht:LiveT s)(j k:Nat)(hk:k<s.n)(hx:s.pos (k*3)=some x)(hd:CalmDev x n):
    (∃s',s.start j k=(s',.inl 50)/\Dim s s' 0)\/(∃s',s.start j k=(s',.inr x)/\s'.lit=s.lit.ticks j 1/\LiveT s'):=by
  unfold BaySt.start;rw[Ze (by omega)];by_cases h:s.trip=0
  · rw[Zf h]
    exact .inl ⟨_,rfl,rfl,rfl,fun j=>by show s.cnt j≤s.cnt j+((0:Nat):Int);omega⟩
  · rw[Ze h,Ze (by rw[ht.dark];simp),show((k:Int)).toNat=k by omega,hx]
    refine .inr ⟨s.begun j (k*3) x,?_,?_,ht.dark,?_⟩
    · show(s.begun j (k*3) x.use,_)=_
      rw[Zot hd]
    · have e:(fun q=>if q=k*3 then some x else s.pos q)=s.pos:=by
        funext q;by_cases hq:q=k*3
        · subst hq;rw[Zf rfl,hx]
        · rw[Ze hq]
      show({s with dark:=false,trip:= -1,cnt:=_,pos:=fun q=>if q=k*3 then some x else s.pos q}:BaySt)=_
      rw[e];rfl
    · show -1≤(if 0<s.trip then s.trip-1 else s.trip)
      have:=ht.trip;split<;>omega
section
variable {s:BaySt} {G:Nat->Prop} {sz:Nat->Nat}
theorem read_t(h:Fit s.lit G sz)(ht:LiveT s)(k z:Nat)(hk:k<s.n)(hg:G k)(hz:z<sz k):
    (∃s',s.read k z=(50,none,s')/\Dim s s' 0)\/(∃s',s.read k z=(0,some (s.sec k z),s')/\s'.lit=s.lit.ticks 0 1/\LiveT s'):=by
  obtain⟨x,h1,h2⟩:=h.dev k hk hg;have h1':s.pos (k*3)=some x:=h1;unfold BaySt.read;rcases start_t ht 0 k hk h1' h2 with ⟨s',e,hd⟩|⟨s',e,hl,hv⟩
  · rw[e]
    exact .inl ⟨s',rfl,hd⟩
  · rw[e,Zdt h1']
    refine .inr ⟨s',?_,hl,hv⟩;show((x.d.read z).1,(x.d.read z).2,s')=_
    unfold Dsk.read;rw[Zf (Zop h2 hz)];rfl
theorem write_t(h:Fit s.lit G sz)(ht:LiveT s)(k z:Nat)(l:Sec)(hk:k<s.n)(hg:G k)(hz:z<sz k)(hl:l.length=128):
    (∃s',s.write k z l=(50,s')/\Dim s s' 0)\/(∃s',s.write k z l=(0,s')/\s'.lit=s.lit.put k z l/\LiveT s'):=by
  obtain⟨x,h1,h2⟩:=h.dev k hk hg;have h1':s.pos (k*3)=some x:=h1;unfold BaySt.write;rcases start_t ht 1 k hk h1' h2 with ⟨s',e,hd⟩|⟨s',e,hlt,hv⟩
  · rw[e]
    exact .inl ⟨s',rfl,hd⟩
  · rw[e,Zo5 h1]
    refine .inr ⟨s'.laid (k*3) ⟨{x.d with cache:=x.d.cache++ [(z,l)]},x.worn,x.left⟩,?_,?_,hv.dark,hv.trip⟩
    · show((x.d.write z l).1,s'.laid (((k:Int)).toNat*3) ⟨(x.d.write z l).2,x.worn,x.left⟩)=_
      rw[Zlc (Zop h2 hz) hl,show((k:Int)).toNat=k by omega]
    · rw[<-hlt];rfl
theorem flush_t(h:Fit s.lit G sz)(ht:LiveT s)(k:Nat)(hk:k<s.n)(hg:G k):
    (∃s',s.flush k=(50,s')/\Dim s s' 0)\/(∃s',s.flush k=(0,s')/\s'.lit=s.lit.dried k/\LiveT s'):=by
  obtain⟨x,h1,h2⟩:=h.dev k hk hg;have h1':s.pos (k*3)=some x:=h1;unfold BaySt.flush;rcases start_t ht 2 k hk h1' h2 with ⟨s',e,hd⟩|⟨s',e,hlt,hv⟩
  · rw[e]
    exact .inl ⟨s',rfl,hd⟩
  · rw[e,Zjl h1]
    refine .inr ⟨s'.laid (k*3) ⟨x.d.settled,x.worn,x.left⟩,?_,?_,hv.dark,hv.trip⟩
    · show((x.d.flush).1,s'.laid (((k:Int)).toNat*3) ⟨(x.d.flush).2,x.worn,x.left⟩)=_
      have:x.d.flush=(0,x.d.settled):=by unfold Dsk.flush;rw[h2.failed,Ze (by simp)]
      rw[this,show((k:Int)).toNat=k by omega]
    · rw[<-hlt];rfl
end
def Inky(s:BaySt)(V:Nat->Nat->Sec)(m q k:Nat)(L:List Sec):Prop:=∃x,s.pos (m*3)=some x/\x.d.last=L/\∀p∈x.d.cache,q+1≤p.1/\p.1<q+1+k/\p.2=V m (p.1-1)
theorem Inky.put(h:Inky s V m q k L):Inky (s.put m (1+(q+k)) (V m (q+k))) V m q (k+1) L:=by
  obtain⟨x,h1,h2,h3⟩:=h;rw[Zo5 h1];refine⟨_,Zf rfl,h2,fun p hp=> ?_⟩;rcases List.mem_append.1 hp with e|e
  · obtain⟨a,b,c⟩:=h3 p e
    exact⟨a,by omega,c⟩
  · rw[List.mem_singleton]at e
    subst e;exact⟨by omega,by omega,by show V m (q+k)=V m (1+(q+k)-1);rw[show 1+(q+k)-1=q+k by omega]⟩
theorem Inky.pos(h:Inky s V m q k L)(e:s'.pos=s.pos):Inky s' V m q k L:=by
  obtain⟨x,h1,h2⟩:=h;exact⟨x,by rw[e];exact h1,h2⟩
theorem settleTo_mem(L:List Sec)(c:List (Nat×Sec))(keep:Nat->Bool)(z:Nat):∀n,(settleTo L c keep n).getD z zsec=L.getD z zsec\/∃p∈c,p.1=z/\(settleTo L c keep n).getD z zsec=p.2
  |0=>.inl rfl
  |n+1=>by
    have ih:=settleTo_mem L c keep z n;unfold settleTo;split
    · rename_i x hx
      split
      · by_cases e:x.1=z
        · by_cases hl:z<(settleTo L c keep n).length
          · refine .inr ⟨x,List.mem_of_getElem? hx,e,?_⟩
            rw[e,Zi,List.getElem?_set_self hl];rfl
          · have e2:(settleTo L c keep n).set x.1 x.2=settleTo L c keep n:=List.set_eq_of_length_le (by omega)
            rw[e2];exact ih
        · have e2:((settleTo L c keep n).set x.1 x.2).getD z zsec=(settleTo L c keep n).getD z zsec:=by
            rw[Zi,Zi,List.getElem?_set_ne e]
          rw[e2];exact ih
      · exact ih
    · exact ih
end
def SecT(w:World)(T:Nat->Nat)(A:Adr)(R:RS)(lg:Option Nat)(vw:Value)(X:List OP)(d:Sec)(n:Nat)(e:Ending)(w':World):Prop:=
  ∃(a:Option Addr) (m k:Nat) (sl:Int) (c:Nat) (s':BaySt),e=Zu (.tuple #[Zt a m k,.agg #[O Z sl,.int .u16 c]])/\RwIn w' T A {R with s:=s'} lg vw X/\Chg (fun k=>T k≠0) w w'/\(c=0/\sl=0/\w'.ownsRow w.heap.size 5 1 (Zt a m k) 128 (ucells d)/\s'.lit=R.s.lit.ticks 0 n/\LiveT s'\/c=50/\Dim R.s s' n)
theorem trouble_any(slot:Int)(c:Nat)(w:World):Calls Zw 45 #[O Z slot,.int .u16 c] w fun e w'=>∃sl,e=Zu (.agg #[O Z sl,.int .u16 c])/\(c=0->sl=0)/\Below w.heap.size w w':=by
  by_cases h:c=0
  · subst h
    exact(Zdf slot w).mono fun e w' h=>⟨0,h.1,fun _=>rfl,h.2⟩
  · exact(Zg7 slot c w h).mono fun e w' k=>⟨slot,k.1,fun e=>absurd e h,k.2⟩
theorem rows_sector_t(h:RwIn w T A R lg vw X)(hs:Sound {R with s:=R.s.lit} V)(ht:LiveT R.s)(hwt:R.wait= [])(m r n:Nat)(hm:m<R.M)(hr:r<R.S*R.C)(hcnt:R.s.cnt 0≤999999000000)(hsm:R.s.small 1000000)(hn:R.dn m r=false->n=1)
    (hso:R.dn m r=true->∀W,Below (w.alloc (Zv #[O Z 0,.int .u16 0] 33)).heap.size (w.alloc (Zv #[O Z 0,.int .u16 0] 33)) W->Calls Zw 158 #[Zs (some ⟨A.q,0,none⟩),O Z m,O Z r] W (SecT W T A R lg vw X (V m r) n)):
    Calls Zw 107 #[Zs (some ⟨A.q,0,none⟩),O Z m,O Z r] w (SecT w T A R lg vw X (V m r) n):=by
  have hb0:Below w.heap.size w (w.alloc (Zv #[O Z 0,.int .u16 0] 33)):=(Zb _ _).alloc (Za _) _;have hw:waitAt R.wait m r=none:=by rw[hwt];rfl
  have hXf:X.length≤100000:=by
    have:X.length=R.wait.length:=by rw[<-h.wtM,Zp]
    rw[this,hwt];exact Nat.zero_le _
  have htb:T w.heap.size=0:=Zae h.bay _ (Za _);have h0:=h.below hb0;have HSS:Hid (∀W,Below (w.alloc (Zv #[O Z 0,.int .u16 0] 33)).heap.size (w.alloc (Zv #[O Z 0,.int .u16 0] 33)) W->W.cell? ⟨A.q,0,none⟩=some (Zs (some ⟨A.b,0,none⟩))/\W.cell? ⟨A.q,1,none⟩=some (O Z R.M)/\W.cell? ⟨A.q,2,none⟩=some (O Z R.C)/\W.cell? ⟨A.q,3,none⟩=some (O Z R.S)):=fun W hb=>⟨(h0.below hb).rw.cell 0,(h0.below hb).rw.cell 1,(h0.below hb).rw.cell 2,(h0.below hb).rw.cell 3⟩
  have HIS : Hid (∀ W, Below (w.alloc (Zv #[O Z 0, .int .u16 0] 33)).heap.size (w.alloc (Zv #[O Z 0, .int .u16 0] 33)) W -> Calls Zw 52 #[Zs (some ⟨A.q, 0, none⟩), O Z m] W fun e w' => e = Zu (.bool true) /\ w' = W) := fun W hb => (Zf1 (m : Int) W (h0.below hb).rw).mono (by
    rintro e w' ⟨rfl,rfl⟩
    refine⟨?_,rfl⟩
    have:(decide ((0:Int)≤m)&&decide ((m:Int)<(R.M:Int)))=true:=by simp;omega
    rw[this])
  have HGR : Hid (∀ W, Below (w.alloc (Zv #[O Z 0, .int .u16 0] 33)).heap.size (w.alloc (Zv #[O Z 0, .int .u16 0] 33)) W -> Calls Zw 70 #[.agg #[O Z R.M, O Z R.C, O Z R.S]] W fun e w' => e = Zu (O Z (R.S * R.C : Nat)) /\ Below (w.alloc (Zv #[O Z 0, .int .u16 0] 33)).heap.size (w.alloc (Zv #[O Z 0, .int .u16 0] 33)) w') := fun W hb => (Zfc R.M R.C R.S W).mono (by
    rintro e w' ⟨rfl,hb'⟩
    exact⟨by rw[Zg0 hs.geo],hb.trans (hb'.mono hb.size)⟩)
  have HWA : Hid (∀ W, Below (w.alloc (Zv #[O Z 0, .int .u16 0] 33)).heap.size (w.alloc (Zv #[O Z 0, .int .u16 0] 33)) W -> Calls Zw 157 #[Zs (some ⟨A.q, 0, none⟩), O Z m, O Z r] W fun e w' => e = Zu (.tuple #[Zt none 0 0, .bool false]) /\ Below (w.alloc (Zv #[O Z 0, .int .u16 0] 33)).heap.size (w.alloc (Zv #[O Z 0, .int .u16 0] 33)) w') := fun W hb => (Zc8 (h0.below hb) hXf m r).mono (by
    intro e w' hp
    rcases hp with ⟨-,rfl,hb'⟩|⟨d,v,hd',-⟩
    · exact⟨rfl,hb.trans (hb'.mono hb.size)⟩
    · rw[hw]at hd';cases hd')
  have HDN:Hid (∀W,Below (w.alloc (Zv #[O Z 0,.int .u16 0] 33)).heap.size (w.alloc (Zv #[O Z 0,.int .u16 0] 33)) W->Calls Zw 106 #[Zs (some ⟨A.q,0,none⟩),O Z m,O Z r] W fun e w'=>e=Zu (.bool (R.dn m r))/\w'=W):=fun W hb=>(Zct m r W (h0.below hb).rw (h0.below hb).fr hm)
  have HRD:Hid (R.dn m r=false->∀W,Below (w.alloc (Zv #[O Z 0,.int .u16 0] 33)).heap.size (w.alloc (Zv #[O Z 0,.int .u16 0] 33)) W->Calls Zw 27 #[Zs (some ⟨A.b,0,none⟩),O Z m,O Z (1+(r:Int))] W fun e w'=>∃(a:Option Addr) (k l:Nat) (c:Nat) (s':BaySt),e=Zu (.tuple #[Zt a k l,.int .u16 c])/\BayAt w' T A.b s'/\Chg (fun k=>T k≠0) (w.alloc (Zv #[O Z 0,.int .u16 0] 33)) w'/\(c=0/\w'.ownsRow w.heap.size 5 1 (Zt a k l) 128 (ucells (V m r))/\s'.lit=R.s.lit.ticks 0 n/\LiveT s'\/c=50/\Dim R.s s' n)):=fun hd W hb=>by
    have hG:({R with s:=R.s.lit}:RS).G m:=.inr ⟨hm,r,hr,hd⟩;have hsz:1+r<({R with s:=R.s.lit}:RS).szs m:=by unfold RS.szs;rw[Zf hm];show 1+r<1+R.S*R.C;omega
    have k:=Zt8 (h0.below hb).bay m (1+(r:Int)) (by omega) hsm;have hnn:m<R.s.n:=by have:R.s.n=R.M+1:=hs.n;omega
    have e1:=read_t hs.fit ht m (1+r) hnn hG hsz;rw[show((1+r:Nat):Int)=1+(r:Int) by omega]at e1;have hsec:R.s.sec m (1+r)=V m r:=hs.sec m r hm hr hw hd;rw[hn hd];rcases e1 with ⟨s',e1,hdm⟩|⟨s',e1,hl,hv⟩
    · rw[e1]at k
      refine k.mono ?_;rintro e w' ⟨v,rfl,p1,p2,-,p4⟩;rw[p4 rfl];exact⟨_,_,_,50,s',rfl,p1,Zaj (Zm hb _) p2 (fun q _ hq=>hq),.inr ⟨rfl,hdm.n,hdm.pos,fun j=>by have:=hdm.cnt j;omega⟩⟩
    · rw[e1,hsec]at k
      refine k.mono ?_;rintro e w' ⟨v,rfl,p1,p2,p3,-⟩;obtain⟨a,cc,rfl⟩:=Zab (p3 _ rfl);exact⟨_,_,_,0,s',rfl,p1,Zaj (Zm hb _) p2 (fun q _ hq=>hq),.inl ⟨rfl,Zan (p3 _ rfl) (Zc hb0.size hb.size),hl,hv⟩⟩
  have HSO:Hid (R.dn m r=true->∀W,Below (w.alloc (Zv #[O Z 0,.int .u16 0] 33)).heap.size (w.alloc (Zv #[O Z 0,.int .u16 0] 33)) W->Calls Zw 158 #[Zs (some ⟨A.q,0,none⟩),O Z m,O Z r] W (SecT W T A R lg vw X (V m r) n)):=hso;have HB0:Hid (Below (w.alloc (Zv #[O Z 0,.int .u16 0] 33)).heap.size (w.alloc (Zv #[O Z 0,.int .u16 0] 33)) (w.alloc (Zv #[O Z 0,.int .u16 0] 33))):=Zb _ _;have HTB:Hid (At (w.alloc (Zv #[O Z 0,.int .u16 0] 33)) w.heap.size #[O Z 0,.int .u16 0] 33):=At.new _ _ _;have hrI:(r:Int)<((R.S*R.C:Nat):Int):=by exact_mod_cast hr
  have hrow:R.S*R.C≤4096:=by have:=Za0 hs.geo;exact_mod_cast this.2
  have H:=hid h;have HBW:=hid hb0;have hqlt:=h.rw.lt;have HFIN:Hid (∀(w6:World) (a:Option Addr) (k l:Nat) (sl:Int) (c:Nat) (s':BaySt),BayAt w6 T A.b s'->At w6 w.heap.size #[O Z 0,.int .u16 0] 33->Chg (fun k=>T k≠0) (w.alloc (Zv #[O Z 0,.int .u16 0] 33)) w6->(c=0/\sl=0/\w6.ownsRow w.heap.size 5 1 (Zt a k l) 128 (ucells (V m r))/\s'.lit=R.s.lit.ticks 0 n/\LiveT s'\/c=50/\Dim R.s s' n)->SecT w T A R lg vw X (V m r) n (Zu (.tuple #[Zt a k l,.agg #[O Z sl,.int .u16 c]])) ((w6.setCell ⟨w.heap.size,0,none⟩ (O Z sl)).setCell ⟨w.heap.size,1,none⟩ (.int .u16 c))):=fun w6 a k l sl c s' hb6 hx6 hc6 hc=>by
    have hst:Chg (fun k=>k=w.heap.size) w6 ((w6.setCell ⟨w.heap.size,0,none⟩ (O Z sl)).setCell ⟨w.heap.size,1,none⟩ (.int .u16 c)):=Zk (S:=fun k=>k=w.heap.size) (Zk (S:=fun k=>k=w.heap.size) (Zl _ _) ⟨w.heap.size,0,none⟩ (.inl rfl) _) ⟨w.heap.size,1,none⟩ (.inl rfl) _;have hcF:Chg (fun k=>T k≠0) w ((w6.setCell ⟨w.heap.size,0,none⟩ (O Z sl)).setCell ⟨w.heap.size,1,none⟩ (.int .u16 c)):=Zaj (Zaj (Zm HBW.out _) hc6 (fun q _ hq=>hq)) hst (fun q hq e=>by omega);refine⟨a,k,l,sl,c,s',rfl,H.out.turn (T':=T) (hb6.keep hst (fun k hk e=>hk (by rw[e];exact htb))) (fun _ _=>rfl) hcF,hcF,?_⟩;rcases hc with ⟨h1,h2,h3,h4⟩|h1
    · exact .inl ⟨h1,h2,Zad h3 hst (fun q hq e=>Za4 h3 hx6 (by decide) (by rw[hq,e])),h4⟩
    · exact .inr h1
  obtain⟨s0,s1,s2,s3⟩:=HSS.out _ (Zb _ _);clear h hs hw hb0 h0 hso hn ht hwt;generalize hD:V m r=D at*;cases hd:R.dn m r
  · have HRD1:=hid (HRD.out hd)
    rw[hd]at HDN;clear HRD HSO hd hD;generalize R.M=M at*;generalize R.C=C at*;generalize R.S=S at*;generalize hSC:S*C=N at*;go_enter Tryz.func107,Tryz.ntmps107
    go_wp2_with (first
      |(go_at_call 52;(with_reducible refine(HIS.out _ HB0.out).mono ?_);rintro e w1 ⟨rfl,hw1⟩;subst hw1)
      |(go_at_call 70;(with_reducible refine(HGR.out _ HB0.out).mono ?_);rintro e w2 ⟨rfl,hb2⟩;have HB2:=hid hb2;clear hb2)
      |(go_at_call 157;(with_reducible refine(HWA.out _ HB2.out).mono ?_);rintro e w3 ⟨rfl,hb3⟩;have HB3:=hid hb3;obtain⟨u0,u1,u2,u3⟩:=HSS.out _ hb3;clear hb3)
      |(go_at_call 106;(with_reducible refine(HDN.out _ HB3.out).mono ?_);rintro e w4 ⟨rfl,hw4⟩;subst hw4)
      |(go_at_call 27;(with_reducible refine(HRD1.out _ HB3.out).mono ?_);rintro e w5 ⟨a5,k5,l5,c5,s5,rfl,hb5,hc5,ho5⟩;have HB5:=hid hb5;have HC5:=hid hc5;have HO5:=hid ho5;clear hb5 hc5 ho5)
      |(go_at_call 45;(with_reducible refine(trouble_any _ _ _).mono ?_);rintro e w6 ⟨sl,rfl,hsl,hb6⟩;have HSL:=hid hsl;have HB6:=hid hb6;have htb6:=(HTB.out.mod HC5.out (fun e=>e htb)).below hb6 (HTB.out.mod HC5.out (fun e=>e htb)).lt;have k0:w6.cell? ⟨w.heap.size,0,none⟩=some (O Z 0):=htb6.cell 0;have k1:w6.cell? ⟨w.heap.size,1,none⟩=some (.int .u16 0):=htb6.cell 1;have f0:=htb6.free 0;have f1:=htb6.free 1;have HT6:=hid htb6;clear hb6 hsl htb6))
    have hF:=(HT6.out.set 0 (O Z sl)).set 1 (.int .u16 c5);have r0:=hF.cell 0;have r1:=hF.cell 1
    have HEND := hid (HFIN.out w6 a5 k5 l5 sl c5 s5 (HB5.out.below HB6.out) HT6.out (HC5.out.trans (Zm HB6.out _)) (by
      rcases HO5.out with ⟨h1,h2,h3⟩|h1
      · exact .inl ⟨h1,HSL.out h1,Zaf h2 HB6.out (Za _),h3⟩
      · exact .inr h1))
    clear hF HT6 HO5 HB5 HB6 HC5 HFIN;(try simp only [Exit.inBlock,Exit.then]);refine bodyPost_ret (v:=.tuple #[Zt a5 k5 l5,.agg #[O Z sl,.int .u16 c5]]) ?_ rfl HEND.out;rw[Zbw rfl];go_simp;try rfl
  · have HSO1:=hid (HSO.out hd)
    rw[hd]at HDN;clear HRD HSO hd hD;generalize R.M=M at*;generalize R.C=C at*;generalize R.S=S at*;generalize hSC:S*C=N at*;go_enter Tryz.func107,Tryz.ntmps107
    go_wp2_with (first
      |(go_at_call 52;(with_reducible refine(HIS.out _ HB0.out).mono ?_);rintro e w1 ⟨rfl,hw1⟩;subst hw1)
      |(go_at_call 70;(with_reducible refine(HGR.out _ HB0.out).mono ?_);rintro e w2 ⟨rfl,hb2⟩;have HB2:=hid hb2;clear hb2)
      |(go_at_call 157;(with_reducible refine(HWA.out _ HB2.out).mono ?_);rintro e w3 ⟨rfl,hb3⟩;have HB3:=hid hb3;obtain⟨u0,u1,u2,u3⟩:=HSS.out _ hb3;clear hb3)
      |(go_at_call 106;(with_reducible refine(HDN.out _ HB3.out).mono ?_);rintro e w4 ⟨rfl,hw4⟩;subst hw4)
      |(go_at_call 158;(with_reducible refine(HSO1.out _ HB3.out).mono ?_);rintro e w6 ⟨a5,k5,l5,sl,c5,s5,rfl,hr6,hc6,ho6⟩;have HC6:Hid (Chg (fun k=>T k≠0) (w.alloc (Zv #[O Z 0,.int .u16 0] 33)) w6):=Zaj (Zm HB3.out _) hc6 (fun q _ hq=>hq);have HR6:=hid hr6.bay;have HO6:=hid ho6;have HZ3:=hid (Zc HBW.out.size HB3.out.size);have htb6:=HTB.out.mod HC6.out (fun e=>e htb);have k0:w6.cell? ⟨w.heap.size,0,none⟩=some (O Z 0):=htb6.cell 0;have k1:w6.cell? ⟨w.heap.size,1,none⟩=some (.int .u16 0):=htb6.cell 1;have f0:=htb6.free 0;have f1:=htb6.free 1;have HT6:=hid htb6;clear hr6 hc6 htb6 ho6))
    have hF:=(HT6.out.set 0 (O Z sl)).set 1 (.int .u16 c5);have r0:=hF.cell 0;have r1:=hF.cell 1
    have HEND := hid (HFIN.out w6 a5 k5 l5 sl c5 s5 HR6.out HT6.out HC6.out (by
      rcases HO6.out with ⟨h1,h2,h3,h4⟩|h1
      · exact .inl ⟨h1,h2,Zan h3 HZ3.out,h4⟩
      · exact .inr h1))
    clear hF HT6 HO6 HR6 HC6 HFIN;(try simp only [Exit.inBlock,Exit.then]);refine bodyPost_ret (v:=.tuple #[Zt a5 k5 l5,.agg #[O Z sl,.int .u16 c5]]) ?_ rfl HEND.out;rw[Zbw rfl];go_simp;try rfl
theorem RS.others_mono(R:RS)(m r:Nat){j:Nat}:∀{k:Nat},j≤k->R.others m r j≤R.others m r k
  |0,h=>by
    obtain rfl:j=0:=by omega
    exact Za _
  |k+1,h=>by
    by_cases e:j=k+1
    · rw[e];exact Za _
    · have ih:=R.others_mono m r (show j≤k by omega)
      refine Zc ih ?_;show _≤(if k=m then _ else _)
      split<;>omega
def SolvT(wr:World)(T:Nat->Nat)(A:Adr)(R:RS)(lg:Option Nat)(vw:Value)(X:List OP)(V:Nat->Nat->Sec)(w:World)(tb g m r j:Nat):Prop:=
  ∃s',s'.lit=R.s.lit.ticks 0 (R.others m r j)/\LiveT s'/\SolvAt wr T A {R with s:=s'} lg vw X w tb g (fun i=>if i<j/\i≠m then V i r else [])
theorem rows_solved_t(h:RwIn w T A R lg vw X)(hs:Sound {R with s:=R.s.lit} V)(ht:LiveT R.s)(hwt:R.wait= [])(m r:Nat)(hm:m<R.M)(hr:r<R.S*R.C)(hd:R.dn m r=true)(hcnt:R.s.cnt 0≤999998000000)(hsm:R.s.small 1000000):
    Calls Zw 158 #[Zs (some ⟨A.q,0,none⟩),O Z m,O Z r] w (SecT w T A R lg vw X (V m r) (R.others m r R.M)):=by
  have hb0:Below w.heap.size w (w.alloc (Zv #[O Z 0,.int .u16 0] 33)):=(Zb _ _).alloc (Za _) _;have hXf:X.length≤100000:=by
    have:X.length=R.wait.length:=by rw[<-h.wtM,Zp]
    rw[this,hwt];exact Nat.zero_le _
  have htb:T w.heap.size=0:=Zae h.bay _ (Za _);have hvirg:∀q,T q≠0->q<w.heap.size:=fun q hq=>by
    apply Classical.byContradiction;intro hn;exact hq (Zae h.bay q (by omega))
  have HVIRG:=hid hvirg;have h0:=h.below hb0;have hM:R.M≤16:=by
    have hg:=hs.geo;unfold geoIs at hg;simp only [Bool.and_eq_true,decide_eq_true_eq]at hg;omega
  have hrow:R.S*R.C≤4096:=by have:=Za0 hs.geo;exact_mod_cast this.2
  have hup:∀j,j<R.M->j≠m->R.dn j r=false:=fun j hj hjm=>by
    cases hdj:R.dn j r
    · rfl
    · exact absurd (hs.lone r hr j m hj hm hdj hd) hjm
  have HUP:=hid hup
  have HWA : Hid (∀ j W, Below (w.alloc (Zv #[O Z 0, .int .u16 0] 33)).heap.size (w.alloc (Zv #[O Z 0, .int .u16 0] 33)) W -> Calls Zw 157 #[Zs (some ⟨A.q, 0, none⟩), O Z (j : Nat), O Z r] W fun e w' => ∃ v ok, e = Zu (.tuple #[v, .bool ok]) /\ Below (w.alloc (Zv #[O Z 0, .int .u16 0] 33)).heap.size (w.alloc (Zv #[O Z 0, .int .u16 0] 33)) w') := fun j W hb => (Zc8 (h0.below hb) hXf j r).mono (by
    intro e w' hp
    rcases hp with ⟨-,rfl,hb'⟩|⟨d,v,-,rfl,-,hb'⟩
    · exact⟨_,_,rfl,hb.trans (hb'.mono hb.size)⟩
    · exact⟨_,_,rfl,hb.trans (hb'.mono hb.size)⟩)
  have HDN : Hid (∀ j W, Below (w.alloc (Zv #[O Z 0, .int .u16 0] 33)).heap.size (w.alloc (Zv #[O Z 0, .int .u16 0] 33)) W -> j < R.M -> j ≠ m -> Calls Zw 106 #[Zs (some ⟨A.q, 0, none⟩), O Z (j : Nat), O Z r] W fun e w' => e = Zu (.bool false) /\ w' = W) := fun j W hb hj hjm => (Zct j r W (h0.below hb).rw (h0.below hb).fr hj).mono (by
    rintro e w' ⟨rfl,rfl⟩
    rw[HUP.out j hj hjm]
    exact⟨rfl,rfl⟩)
  have HSS:Hid (∀W,Below (w.alloc (Zv #[O Z 0,.int .u16 0] 33)).heap.size (w.alloc (Zv #[O Z 0,.int .u16 0] 33)) W->W.cell? ⟨A.q,1,none⟩=some (O Z R.M)):=fun W hb=>(h0.below hb).rw.cell 1
  have HTB:Hid (At (w.alloc (Zv #[O Z 0,.int .u16 0] 33)) w.heap.size #[O Z 0,.int .u16 0] 33):=At.new _ _ _;have H:=hid h;have HS:=hid hs;have HT:=hid ht;have HW:=hid hwt;have HCN:=hid hcnt;have HSM:=hid hsm;have HBW:=hid hb0;have hqlt:=h.rw.lt;have s1:=HSS.out _ (Zb _ _);have hMI:(R.M:Int)≤16:=by omega
  obtain⟨M,hRM⟩:∃M,M=R.M:=⟨_,rfl⟩;have HRM:=hid hRM;rw[<-hRM]at hm hM hMI s1 HSS HDN;clear h hs ht hwt hb0 h0 hvirg hup hRM hcnt hsm;go_enter Tryz.func158,Tryz.ntmps158;go_wp2;go_loopw [22] (fun q wr=>∃k:Nat,k≤M/\q=O Z k/\Below (w.alloc (Zv #[O Z 0,.int .u16 0] 33)).heap.size (w.alloc (Zv #[O Z 0,.int .u16 0] 33)) wr) (fun q _=>M-(intOf q).toNat);case atStart=>exact⟨0,by omega,rfl,Zb _ _⟩
  case round=>
    obtain⟨k,hk,rfl,hbw⟩:=hrel;have HBR:=hid hbw;clear hbw;by_cases hkn:k<M
    · have K1:Hid (k+1≤M):=hkn
      by_cases hkm:k=m
      · as_aux_lemma=>
          subst hkm
          go_wp2_with (first
            |(go_at_call 157;(with_reducible refine(HWA.out _ _ HBR.out).mono ?_);rintro e w3 ⟨v,ok,rfl,hb3⟩;have HB3:=hid hb3;clear hb3))
          exact⟨⟨k+1,K1.out,by go_num,HB3.out⟩,by simp[intOf];omega⟩
      · as_aux_lemma=>
          have hne:((k:Int) !=(m:Int))=true:=by simp;omega
          go_wp2_with (first
            |(go_at_call 157;(with_reducible refine(HWA.out _ _ HBR.out).mono ?_);rintro e w3 ⟨v,ok,rfl,hb3⟩;have HB3:=hid hb3;clear hb3)
            |(go_at_call 106;(with_reducible refine(HDN.out _ _ HB3.out hkn hkm).mono ?_);rintro e w4 ⟨rfl,hw4⟩;subst hw4))
          exact⟨⟨k+1,K1.out,by go_num,HB3.out⟩,by simp[intOf];omega⟩
    · obtain rfl:k=M:=by omega
      have s2:=HSS.out _ HBR.out;clear HWA HDN s1
      go_wp2_with (first
        |(refine Zaq rfl _ _ 80 51 1 24 rfl Zie (Zt none 0 0) (by kernel_rfl) _ _ _ _ k rfl rfl rfl rfl (by omega) (by unfold maxLen;omega) ?_;intro w5 a5 b5;have A5:=hid a5;have B5:=hid b5;clear a5 b5))
      have HL0:Hid (SolvT w5 T A R lg vw X V w w.heap.size wr.heap.size m r 0):=by
        have hb5:Below w.heap.size w w5:=(HBW.out.trans (HBR.out.mono HBW.out.size)).trans (B5.out.mono (Zc HBW.out.size HBR.out.size));refine⟨R.s,(Zei R.s.lit 0).symm,HT.out,H.out.below hb5,(HTB.out.below HBR.out HTB.out.lt).below B5.out (HTB.out.below HBR.out HTB.out.lt).lt,?_,Zm hb5 _,htb,Zae H.out.bay _ (Zc HBW.out.size HBR.out.size),Zc HBW.out.size HBR.out.size,Za _⟩;have hro:=RowsOf.fresh (X:=fun k=>T k≠0) A5.out;rw[HRM.out]at hro;exact hro.congr fun j hj=>by simp
      have hgl:w.heap.size≤wr.heap.size:=Zc HBW.out.size HBR.out.size;clear HSS s2 A5 B5 HBR HTB;generalize wr.heap.size=g at*;go_loopw [55] (fun q wx=>∃j:Nat,j≤k/\q=O Z j/\SolvT wx T A R lg vw X V w w.heap.size g m r j) (fun q _=>k-(intOf q).toNat);case atStart=>exact⟨0,by omega,rfl,HL0.out⟩
      case round=>
        obtain⟨j,hj,rfl,hrl⟩:=hrel;obtain⟨s',hl',ht',hsv⟩:=hrl;have HSV:=hid hsv;have HL:=hid hl';have HTL:=hid ht';clear hsv hl' ht' HL0;by_cases hjk:j<k
        · have K1:Hid (j+1≤k):=hjk
          by_cases hjm:j=m
          · as_aux_lemma=>
              subst hjm;have HN:Hid (SolvT wr T A R lg vw X V w w.heap.size g j r (j+1)):=by
                have e:R.others j r (j+1)=R.others j r j:=Zf rfl;have hv:=HSV.out;refine⟨s',by rw[e];exact HL.out,HTL.out,hv.rw,hv.box,hv.rows.congr fun i hi=> ?_,hv.chg,hv.ttb,hv.ttg,hv.hi⟩;by_cases h1:i<j
                · rw[Zf ⟨by omega,by omega⟩,Zf ⟨h1,by omega⟩]
                · rw[Ze (by omega),Ze (by omega)]
              go_wp2;exact⟨⟨j+1,K1.out,by go_num,HN.out⟩,by simp[intOf];omega⟩
          · have hne:((j:Int)==(m:Int))=false:=by simp;omega
            have hjR:j<R.M:=by rw[<-HRM.out];exact hjk
            have e1:R.others m r (j+1)=R.others m r j+1:=by
              have:R.one j r=1:=by unfold RS.one;rw[HW.out];rfl
              show(if j=m then _ else _)=_
              rw[Ze hjm,this]
            have HSEC:Hid (Calls Zw 107 #[Zs (some ⟨A.q,0,none⟩),O Z j,O Z r] wr (SecT wr T A {R with s:=s'} lg vw X (V j r) 1)):=by
              have hs':=HS.out.ticks (R.others m r j);have hs2:Sound {({R with s:=s'}:RS)with s:=({R with s:=s'}:RS).s.lit} V:=by
                show Sound {R with s:=s'.lit} V
                rw[HL.out];exact hs'
              have hc0:s'.lit.cnt 0=(R.s.lit.ticks 0 (R.others m r j)).cnt 0:=by rw[HL.out]
              rw[Zb7]at hc0;have hc9:s'.lit.cnt 0=s'.cnt 0:=rfl;have hn9:s'.lit.n=(R.s.lit.ticks 0 (R.others m r j)).n:=by rw[HL.out]
              have hn8:s'.n=R.s.n:=hn9;have hp9:s'.lit.pos=(R.s.lit.ticks 0 (R.others m r j)).pos:=by rw[HL.out]
              have hp8:s'.pos=R.s.pos:=hp9;have hc1:R.s.lit.cnt 0=R.s.cnt 0:=rfl;have hc2:=HCN.out;have hc3:=R.others_le m r j
              exact rows_sector_t HSV.out.rw hs2 HTL.out HW.out j r 1 hjR hr (by show s'.cnt 0 ≤ _; omega) (fun i hi x hx => HSM.out i (by have hi' : i < 3 * s'.n := hi; omega) x (by rw [<- hp8]; exact hx)) (fun _ => rfl) (fun e => by
                have e':R.dn j r=true:=e
                rw[HUP.out j hjR hjm]at e'
                cases e')
            have HLV:Hid ((V j r).length=128):=HS.out.len j r hjR hr;have HE1:=hid e1;clear e1;have hkl:(j:Int)<(k:Int):=by omega
            go_upto_if 70 with (first
              |(go_at_call 107;(with_reducible refine HSEC.out.mono ?_);rintro e w7 ⟨a7,m7,c7,sl7,cd,s7,rfl,hr7,hc7,ho7⟩;have HO7:=hid ho7;have HV7:=hid (HSV.out.sec hr7 hc7);have HG7:=hid hc7.size;clear ho7 hr7 hc7))
            rcases HO7.out with ⟨rfl,rfl,ho7,hl7,ht7⟩|⟨rfl,hd7⟩
            · as_aux_lemma=>
                obtain⟨a,c,hv⟩:=Zab ho7;simp only [Zn]at hv;obtain⟨rfl,rfl,rfl⟩:=hv;have HOW:=hid ho7;have HL7:Hid (s7.lit=R.s.lit.ticks 0 (R.others m r (j+1))):=by
                  show _=_
                  rw[HE1.out,<-Zeu,<-HL.out];exact hl7
                have HT7:=hid ht7;obtain⟨u7,d7,-,-⟩:=HV7.out.rows.cell hjR;have f7:=HV7.out.rows.free j;have hg7:=HV7.out.rows.lt;clear ho7 hl7 ht7 HO7;go_wp2;have HP7:=hid (HV7.out.put j hjR HOW.out HLV.out (fun q hq=>Zd (HVIRG.out q hq) HSV.out.chg.size));have HN:Hid (SolvT ((w7.setCell ⟨g,j,none⟩ (Zt a7 128 c7)).alloc (Zv #[O Z 0,.int .u16 0] 33)) T A R lg vw X V w w.heap.size g m r (j+1)):=by
                  have hv:=HP7.out.below ((Zb _ _).alloc (Za _) (Zv #[O Z 0,.int .u16 0] 33));refine⟨s7,HL7.out,HT7.out,hv.rw,hv.box,hv.rows.congr fun i hi=> ?_,hv.chg,hv.ttb,hv.ttg,hv.hi⟩;by_cases h1:i=j
                  · rw[Zf h1,h1,Zf ⟨by omega,hjm⟩]
                  · rw[Ze h1]
                    by_cases h2:i<j/\i≠m
                    · rw[Zf h2,Zf ⟨by omega,h2.2⟩]
                    · rw[Ze h2,Ze (by omega)]
                exact⟨⟨j+1,K1.out,by go_num,HN.out⟩,by simp[intOf];omega⟩
            · have hx7:=HV7.out.box.alloc (Zv #[O Z sl7,.int .u16 50] 33)
              have k0:=hx7.cell 0;have k1:=hx7.cell 1;have f0:=hx7.free 0;have f1:=hx7.free 1;have HX7:=hid hx7;have HD7:=hid hd7;clear hx7 hd7 HO7;go_wp2;go_region;have hF:=(HX7.out.set 0 (O Z sl7)).set 1 (.int .u16 50);have r0:=(hF.below (Zb _ _).drew hF.lt).cell 0;have r1:=(hF.below (Zb _ _).drew hF.lt).cell 1;have hst:Chg (fun k=>k=w.heap.size) (w7.alloc (Zv #[O Z sl7,.int .u16 50] 33)) ((((w7.alloc (Zv #[O Z sl7,.int .u16 50] 33)).setCell ⟨w.heap.size,0,none⟩ (O Z sl7)).setCell ⟨w.heap.size,1,none⟩ (.int .u16 50)).drew):=(Zk (S:=fun k=>k=w.heap.size) (Zk (S:=fun k=>k=w.heap.size) (Zl _ _) ⟨w.heap.size,0,none⟩ (.inl rfl) _) ⟨w.heap.size,1,none⟩ (.inl rfl) _).drew;have hv8:=HV7.out.below ((Zb _ _).alloc (Za _) (Zv #[O Z sl7,.int .u16 50] 33));have hcF:Chg (fun k=>T k≠0) w ((((w7.alloc (Zv #[O Z sl7,.int .u16 50] 33)).setCell ⟨w.heap.size,0,none⟩ (O Z sl7)).setCell ⟨w.heap.size,1,none⟩ (.int .u16 50)).drew):=Zaj hv8.chg hst (fun q hq e=>by omega);have HEND:Hid (SecT w T A R lg vw X (V m r) (R.others m r R.M) (Zu (.tuple #[Zt none 0 0,.agg #[O Z sl7,.int .u16 50]])) ((((w7.alloc (Zv #[O Z sl7,.int .u16 50] 33)).setCell ⟨w.heap.size,0,none⟩ (O Z sl7)).setCell ⟨w.heap.size,1,none⟩ (.int .u16 50)).drew)):=by
                have hbay:=hv8.rw.bay.keep hst (fun k hk e=>hk (by rw[e];exact htb));have hrw:=H.out.turn (T':=T) (s':=s7) hbay (fun _ _=>rfl) hcF;refine⟨_,_,_,_,50,s7,rfl,hrw,hcF,.inr ⟨rfl,?_⟩⟩;have hl:=HL.out;have hd:=HD7.out;have hmn:=R.others_mono m r (show j+1≤R.M by omega);have h1:s'.lit.n=(R.s.lit.ticks 0 (R.others m r j)).n:=by rw[hl]
                have h2:s'.lit.pos=(R.s.lit.ticks 0 (R.others m r j)).pos:=by rw[hl]
                refine⟨hd.n.trans h1,hd.pos.trans h2,fun q=> ?_⟩;have h3:s'.lit.cnt q=(R.s.lit.ticks 0 (R.others m r j)).cnt q:=by rw[hl]
                have h4:s'.lit.cnt q=s'.cnt q:=rfl;have h5:(R.s.lit.ticks 0 (R.others m r j)).cnt q≤R.s.cnt q+(R.others m r j:Nat):=by
                  show(if q=0 then R.s.cnt 0+((R.others m r j:Nat):Int)else R.s.cnt q)≤_
                  split
                  · rename_i e;subst e;omega
                  · omega
                have h6:s7.cnt q≤s'.cnt q+((1:Nat):Int):=hd.cnt q;have h7:=HE1.out;omega
              clear hF hst hv8 hcF HX7 HD7 HV7 HSV HSEC k0 k1 f0 f1;go_wp2;(try simp only [Exit.inBlock,Exit.then]);refine bodyPost_ret (v:=.tuple #[Zt none 0 0,.agg #[O Z sl7,.int .u16 50]]) ?_ rfl HEND.out;rw[Zbw rfl];go_simp;try rfl
        · obtain rfl:j=k:=by omega
          have hmR:m<R.M:=by rw[<-HRM.out];exact hm
          have hpl:Hid (Calls Zw 204 #[.agg #[O Z R.M,O Z R.C,O Z R.S],O Z r,O Z m,Zt (some ⟨g,0,none⟩) R.M R.M] wr fun e w'=>∃v,e=Zu (.tuple #[v,.int .u16 0])/\w'.ownsRow wr.heap.size 5 1 v 128 (ucells (V m r))/\Below wr.heap.size wr w'):=by
            have hsg:=HSV.out.rows.segs;have hgd:∀i,i<R.M->i≠m->((List.range R.M).map fun i=>if i<j/\i≠m then V i r else []).getD i []=V i r:=fun i hi him=>by
              rw[Zlh _ hi,Zf ⟨by rw[HRM.out];exact hi,him⟩]
            have hc:=Zp8 R.M R.C R.S r m _ _ wr HS.out.geo hr hmR hsg (by simp) (fun i hi him=>by rw[hgd i hi him];exact HS.out.len i r hi hr);rw[solved (F:=fun i=>V i r) hmR (HS.out.even r hr) hgd (HS.out.len m r hmR hr)]at hc;exact hc
          have q1:wr.cell? ⟨A.q,1,none⟩=some (O Z R.M):=HSV.out.rw.rw.cell 1;have q2:wr.cell? ⟨A.q,2,none⟩=some (O Z R.C):=HSV.out.rw.rw.cell 2;have q3:wr.cell? ⟨A.q,3,none⟩=some (O Z R.S):=HSV.out.rw.rw.cell 3;rw[<-HRM.out]at q1 hpl;clear HUP
          go_wp2_with (first
            |(go_at_call 204;(with_reducible refine hpl.out.mono ?_);rintro e w7 ⟨v7,rfl,ho7,hb7⟩;have HO7:=hid ho7;have HB7:=hid hb7;obtain⟨a7,c7,rfl⟩:=Zab ho7;clear ho7 hb7)
            |(go_at_call 45;(with_reducible refine(Zdf _ _).mono ?_);rintro e w8 ⟨rfl,hb8⟩;have HV8:=hid ((HSV.out.below HB7.out).below hb8);have HO8:=hid (Zaf HO7.out hb8 (Za _));have k0:w8.cell? ⟨w.heap.size,0,none⟩=some (O Z 0):=HV8.out.box.cell 0;have k1:w8.cell? ⟨w.heap.size,1,none⟩=some (.int .u16 0):=HV8.out.box.cell 1;have f0:=HV8.out.box.free 0;have f1:=HV8.out.box.free 1;clear hb8))
          have hst:Chg (fun k=>k=w.heap.size) w8 ((w8.setCell ⟨w.heap.size,0,none⟩ (O Z 0)).setCell ⟨w.heap.size,1,none⟩ (.int .u16 0)):=Zk (S:=fun k=>k=w.heap.size) (Zk (S:=fun k=>k=w.heap.size) (Zl _ _) ⟨w.heap.size,0,none⟩ (.inl rfl) _) ⟨w.heap.size,1,none⟩ (.inl rfl) _;have hF:=(HV8.out.box.set 0 (O Z 0)).set 1 (.int .u16 0);have r0:=hF.cell 0;have r1:=hF.cell 1;have hcF:Chg (fun k=>T k≠0) w ((w8.setCell ⟨w.heap.size,0,none⟩ (O Z 0)).setCell ⟨w.heap.size,1,none⟩ (.int .u16 0)):=Zaj HV8.out.chg hst (fun q hq e=>by omega);have HEND:Hid (SecT w T A R lg vw X (V m r) (R.others m r R.M) (Zu (.tuple #[Zt a7 128 c7,.agg #[O Z 0,.int .u16 0]])) ((w8.setCell ⟨w.heap.size,0,none⟩ (O Z 0)).setCell ⟨w.heap.size,1,none⟩ (.int .u16 0))):=by
            have hbay:=HV8.out.rw.bay.keep hst (fun k hk e=>hk (by rw[e];exact htb));have hrw:=H.out.turn (T':=T) (s':=s') hbay (fun _ _=>rfl) hcF;refine⟨_,_,_,_,0,s',rfl,hrw,hcF,.inl ⟨rfl,rfl,Zan (Zad HO8.out hst (fun q hq e=>Za4 HO8.out HV8.out.box (by decide) (by rw[hq,e]))) HSV.out.chg.size,?_,HTL.out⟩⟩;rw[HRM.out]at HL;exact HL.out
          clear hst hF hcF HV8 HO8 HO7 HB7 hpl HSV HS H HVIRG;(try simp only [Exit.inBlock,Exit.then]);refine bodyPost_ret (v:=.tuple #[Zt a7 128 c7,.agg #[O Z 0,.int .u16 0]]) ?_ rfl HEND.out;rw[Zbw rfl];go_simp;try rfl
structure Torn (R:RS) (V:Nat->Nat->Sec) (m q k:Nat) (L:List Sec) (s':BaySt):Prop where
  n:s'.n=R.s.n
  pos:∀p,p≠m*3->s'.pos p=R.s.pos p
  ink:Inky s' V m q k L
  dev:∃x,s'.pos (m*3)=some x/\CalmDev x (R.szs m)
  cnt:∀j,j<3->s'.cnt j≤R.s.cnt j+1000
  small:∀x,R.s.small x->s'.small (x+k)
def StepT(R:RS)(V:Nat->Nat->Sec)(m q k:Nat)(L:List Sec)(sl:Int)(c:Nat)(s':BaySt):Prop:=
  (c=0/\sl=0/\Healed {R with s:=R.s.lit} V m q k s'.lit)\/(c=50/\Torn R V m q k L s')
theorem HealS.torn{K:Nat}{s'':BaySt}{n:Nat}(h:HealS {R with s:=R.s.lit} V m q k s'.lit)(hi:Inky s' V m q k L)(hd:Dim s' s'' n)(hk:k≤K)(hK:K≤16)(hM:R.M≤16)(hm:m<R.s.n)(hn:n≤17):Torn R V m q K L s'':=by
  have hMM:k*(R.M-1)≤16*15:=Nat.mul_le_mul (by omega) (by omega);have e0:s'.cnt 0=R.s.cnt 0+((k*(R.M-1):Nat):Int):=h.c0;have e1:s'.cnt 1=R.s.cnt 1+(k:Int):=h.c1;have e2:s'.cnt 2=R.s.cnt 2:=h.c2;have en:s'.n=R.s.n:=h.n;obtain⟨x,h1,h2⟩:=h.fit.dev m (by show m<s'.n;omega) (.inr rfl);obtain⟨y,i1,i2,i3⟩:=hi;refine⟨hd.n.trans en,fun p hp=>(congrFun hd.pos p).trans (h.pos p hp),⟨y,by rw[hd.pos];exact i1,i2,fun p hp=> ?_⟩,⟨x,by rw[hd.pos];exact h1,h2⟩,fun j hj=> ?_,fun x hx i hi y hy=> ?_⟩
  · obtain⟨a,b,c⟩:=i3 p hp
    exact⟨a,by omega,c⟩
  · have:=hd.cnt j
    have:j=0\/j=1\/j=2:=by omega
    rcases this with e|e|e<;>subst e<;>omega
  · have:=h.small x hx i (by show i<3*s'.n;rw[<-hd.n];exact hi) y (by show s'.pos i=some y;rw[<-hd.pos];exact hy)
    omega
structure LayT (w0 W:World) (T:Nat->Nat) (A:Adr) (R:RS) (lg:Option Nat) (vw:Value) (X:List OP) (V:Nat->Nat->Sec) (m q k g:Nat) (L:List Sec):Prop where
  at':∃T' s',RwIn W T' A {R with s:=s'} lg vw X/\HealS {R with s:=R.s.lit} V m q k s'.lit/\LiveT s'/\Inky s' V m q k L/\(∀p,p<w0.heap.size->T' p=T p)
  chg:Chg (fun p=>T p≠0) w0 W
  b0:At W g #[O Z R.M,O Z R.C,O Z R.S] 23
  b1:At W (g+1) #[O Z 0,.int .u16 0] 33
structure OffT (w0 W:World) (T:Nat->Nat) (A:Adr) (R:RS) (lg:Option Nat) (vw:Value) (X:List OP) (P:BaySt->Prop) (g:Nat):Prop where
  at':∃T' s',RwIn W T' A {R with s:=s'} lg vw X/\P s'/\(∀p,p<w0.heap.size->T' p=T p)
  chg:Chg (fun p=>T p≠0) w0 W
  b1:At W (g+1) #[O Z 0,.int .u16 0] 33
theorem OffT.below{W':World}{P:BaySt->Prop}(h:OffT w0 W T A R lg vw X P g)(hb:Below W.heap.size W W'):OffT w0 W' T A R lg vw X P g:=by
  obtain⟨⟨T',s',k1,k2,k3⟩,k4,k5⟩:=h;exact⟨⟨T',s',k1.below hb,k2,k3⟩,k4.trans (Zm hb _),k5.below hb k5.lt⟩
def LayEnd(w:World)(T:Nat->Nat)(A:Adr)(R:RS)(lg:Option Nat)(vw:Value)(X:List OP)(V:Nat->Nat->Sec)(m q k:Nat)(L:List Sec)(e:Ending)(w':World):Prop:=
  ∃(sl:Int) (c:Nat) (T':Nat->Nat) (s':BaySt),e=Zu (.agg #[O Z sl,.int .u16 c])/\RwIn w' T' A {R with s:=s'} lg vw X/\StepT R V m q k L sl c s'/\(∀p,p<w.heap.size->T' p=T p)/\Chg (fun p=>T p≠0) w w'
theorem heal_lay_t(h:RwIn w T A R lg vw X)(hg:Good {R with s:=R.s.lit} V)(ht:LiveT R.s)(hw:R.wait= [])(m s:Nat)(hm:m<R.M)(hs:s<R.S)(hd:∀k,k<R.C->R.dn m (s*R.C+k)=true)(hf:Fit R.s.lit (fun j=>R.G j\/j=m) R.szs)(hi:Inky R.s V m (s*R.C) 0 L)(hc0:R.s.cnt 0≤990000000000)(hc1:R.s.cnt 1≤990000000000)(hc2:R.s.cnt 2≤990000000000)(hsm:R.s.small 900000):
    Calls Zw 54 #[geo R.M R.C R.S,Zs (some ⟨A.q,0,none⟩),O Z m,O Z s,.func (.func 55) #[Zs (some ⟨A.b,0,none⟩)] #[],.func (.func 56) #[Zs (some ⟨A.b,0,none⟩)] #[]] w (LayEnd w T A R lg vw X V m (s*R.C) R.C L):=by
  obtain⟨g1,g2,g3,g4,g5,g6⟩:=(Zam R.M R.C R.S).1 hg.geo;have p1:s*R.C+R.C≤R.S*R.C:=by
    have:=Nat.mul_le_mul_right R.C (show s+1≤R.S by omega);rw[Nat.add_mul,Nat.one_mul]at this;exact this
  have p2:R.S*R.C≤4096:=(Zbe hg.geo).2.2.2;have hnn:R.s.n=R.M+1:=hg.n;have hVg:=Zae h.bay;have e1:(w.alloc (Zv #[O Z R.M,O Z R.C,O Z R.S] 23)).heap.size=w.heap.size+1:=Zaa _ _;have e2:((w.alloc (Zv #[O Z R.M,O Z R.C,O Z R.S] 23)).alloc (Zv #[O Z 0,.int .u16 0] 33)).heap.size=w.heap.size+2:=by rw[Zaa,e1]
  have hb2:Below w.heap.size w ((w.alloc (Zv #[O Z R.M,O Z R.C,O Z R.S] 23)).alloc (Zv #[O Z 0,.int .u16 0] 33)):=((Zb _ _).alloc (Za _) _).alloc (by rw[e1];omega) _;have hbx:=At.new (w.alloc (Zv #[O Z R.M,O Z R.C,O Z R.S] 23)) #[O Z 0,.int .u16 0] 33;rw[e1]at hbx;obtain⟨w2,hw2⟩:∃w2,w2=((w.alloc (Zv #[O Z R.M,O Z R.C,O Z R.S] 23)).alloc (Zv #[O Z 0,.int .u16 0] 33)):=⟨_,rfl⟩;have HI:Hid (LayT w2 ((w.alloc (Zv #[O Z R.M,O Z R.C,O Z R.S] 23)).alloc (Zv #[O Z 0,.int .u16 0] 33)) T A R lg vw X V m (s*R.C) 0 w.heap.size L):=by
    rw[hw2];exact⟨⟨T,R.s,h.below hb2,HealS.start (R:={R with s:=R.s.lit}) V _ hf,ht,hi,fun _ _=>rfl⟩,Zl _ _,(At.new w _ _).alloc _,hbx⟩
  have HZ2:Hid (w2.heap.size=w.heap.size+2/\Below w.heap.size w w2):=by rw[hw2];exact⟨e2,hb2⟩
  have HSEC:Hid (∀k W,k<R.C->LayT w2 W T A R lg vw X V m (s*R.C) k w.heap.size L->Calls Zw 107 #[Zs (some ⟨A.q,0,none⟩),O Z m,O Z (((s*R.C:Nat):Int)+(k:Int))] W fun e w'=>∃(xa:Option Addr) (xn xc:Nat) (sl:Int) (c:Nat),e=Zu (.tuple #[Zt xa xn xc,.agg #[O Z sl,.int .u16 c]])/\((c=0/\sl=0/\xn=128/\At w' w.heap.size #[O Z R.M,O Z R.C,O Z R.S] 23/\(∀W2,Below w'.heap.size w' W2->Calls Zw 55 #[Zs (some ⟨A.b,0,none⟩),O Z m,O Z (1+(((s*R.C:Nat):Int)+(k:Int))),Zt xa 128 xc] W2 fun e w3=>∃c2:Nat,e=Zu (.int .u16 c2)/\(c2=0/\LayT w2 w3 T A R lg vw X V m (s*R.C) (k+1) w.heap.size L\/c2=50/\OffT w2 w3 T A R lg vw X (Torn R V m (s*R.C) R.C L) w.heap.size)))\/(c=50/\OffT w2 w' T A R lg vw X (Torn R V m (s*R.C) R.C L) w.heap.size))):=fun k W hk hl=>by
    obtain⟨⟨T',s',hr,hhs,hlt,hik,htg⟩,hch,hb0,hb1⟩:=hl;have hgd:=hhs.good hg (fun j hj=>hd j (by omega));have hsm':s'.small 910000:=(hhs.small _ hsm).mono (by omega);have hMM:k*(R.M-1)≤16*16:=Nat.mul_le_mul (by omega) (by omega);have hcn0:s'.cnt 0=R.s.cnt 0+((k*(R.M-1):Nat):Int):=hhs.c0;have hcn1:s'.cnt 1=R.s.cnt 1+(k:Int):=hhs.c1;have hTb:T' w.heap.size=0:=(htg _ (by rw[HZ2.out.1];omega)).trans (hVg _ (Za _));have hTb1:T' (w.heap.size+1)=0:=(htg _ (by rw[HZ2.out.1];omega)).trans (hVg _ (by omega));have hsd:Sound {({R with s:=s'}:RS)with s:=({R with s:=s'}:RS).s.lit} V:=hgd.sound;have hoth:R.others m (s*R.C+k) R.M=R.M-1:=by rw[R.others_all hw,Zf hm]
    have hsec := rows_sector_t (R := { R with s := s' }) hr hsd hlt hw m (s * R.C + k) (R.M - 1) hm (by show s * R.C + k < R.S * R.C; omega) (by show s'.cnt 0 ≤ _; omega) (hsm'.mono (by omega)) (fun e => by have e' : R.dn m (s * R.C + k) = false := e; rw [hd k hk] at e'; cases e') (fun e W hW => by
      have:=rows_solved_t (R:={R with s:=s'}) ((hr.below ((Zb _ _).alloc (Za _) (Zv #[O Z 0,.int .u16 0] 33))).below hW) hsd hlt hw m (s*R.C+k) hm (by show s*R.C+k<R.S*R.C;omega) e (by show s'.cnt 0≤_;omega) (hsm'.mono (by omega))
      have e3:({R with s:=s'}:RS).others m (s*R.C+k) ({R with s:=s'}:RS).M=R.M-1:=(RS.others_all ({R with s:=s'}:RS) hw m (s*R.C+k) R.M).trans (Zf hm)
      rw[e3]at this
      exact this)
    rw[Int.natCast_add]at hsec;refine hsec.mono ?_;rintro e w' ⟨xa,xn,xc,sl,c,s1,rfl,k2,k3,kk⟩;have hb0':=hb0.mod k3 (fun e=>e hTb);have hb1':=hb1.mod k3 (fun e=>e hTb1);have hch':Chg (fun p=>T p≠0) w2 w':=Zaj hch k3 (fun p hp e=>by rw[<-htg p hp];exact e);rcases kk with ⟨rfl,rfl,k1,kl,kv⟩|⟨rfl,kd⟩
    · obtain⟨a0,c0,hv⟩:=Zab k1
      simp only [Zn]at hv;obtain⟨rfl,rfl,rfl⟩:=hv;obtain⟨f0,fz,fn,fl,fnext⟩:=hhs.next hg hm (show s*R.C+k<R.S*R.C by omega);have kl':s1.lit=s'.lit.ticks 0 (R.M-1):=kl;have hp1:s1.pos=s'.pos:=by
        have:s1.lit.pos=(s'.lit.ticks 0 (R.M-1)).pos:=by rw[kl']
        exact this
      have hn1:s1.n=s'.n:=by
        have:s1.lit.n=(s'.lit.ticks 0 (R.M-1)).n:=by rw[kl']
        exact this
      have hk1:s1.cnt 1=s'.cnt 1:=by
        have:s1.lit.cnt 1=(s'.lit.ticks 0 (R.M-1)).cnt 1:=by rw[kl']
        exact this.trans (Zbo _ _ _ _ (by decide))
      have hsm1:s1.small 910000:=fun i hi x hx=>hsm' i (by rw[<-hn1];exact hi) x (by rw[<-hp1];exact hx)
      refine⟨_,_,_,0,0,rfl,.inl ⟨rfl,rfl,rfl,hb0',fun W2 hW2=> ?_⟩⟩;have hseg:Seg W2 (Zt xa 128 xc) (V m (s*R.C+k)):=by
        have ho:=Zaf k1 hW2 (Za _);exact Zao (by rw[fl];exact ho)
      have kk := Zh4 (k2.below hW2).bay (m : Int) (1 + (((s * R.C + k : Nat)) : Int)) _ _ (by show s1.cnt 1 ≤ _; omega) (hsm1.mono (by omega)) hseg (fun a n cc e => by
        simp only [Zn]at e
        obtain⟨rfl,-,-⟩:=e
        exact Zae hr.bay _ (k1.lt a.block (by simp[Value.ownBlock])).1)
      have hwt:=write_t (s:=s1) (G:=fun j=>R.G j\/j=m) (sz:=R.szs) (by rw[kl'];exact f0) kv m (1+(s*R.C+k)) (V m (s*R.C+k)) (by rw[hn1];exact fn) (.inr rfl) fz fl;rw[show((1+(s*R.C+k):Nat):Int)=1+(((s*R.C+k:Nat)):Int) by omega]at hwt;have hz4:=hW2.size;have hz3:=k3.size;rcases hwt with ⟨s2,ew,hdm⟩|⟨s2,ew,hl2,hv2⟩
      · have ew':({R with s:=s1}:RS).s.write (m:Int) (1+(((s*R.C+k:Nat)):Int)) (V m (s*R.C+k))=(50,s2):=ew
        rw[ew',Int.natCast_add]at kk;refine kk.mono ?_;rintro e w3 ⟨rfl,T'',q1,q2,q3⟩
        have hto : Torn R V m (s * R.C) R.C L s2 := hhs.torn (n := 17) hik ⟨hdm.n.trans hn1, hdm.pos.trans hp1, fun j => by
          have h1:=hdm.cnt j
          have h2:s1.lit.cnt j=(s'.lit.ticks 0 (R.M-1)).cnt j:=by rw[kl']
          have h3:s1.lit.cnt j=s1.cnt j:=rfl
          have h4:(s'.lit.ticks 0 (R.M-1)).cnt j≤s'.cnt j+((R.M-1:Nat):Int):=by
            show(if j=0 then s'.cnt 0+((R.M-1:Nat):Int)else s'.cnt j)≤_
            split
            · rename_i e;subst e;omega
            · omega
          omega⟩ (by omega) (by omega) (by omega) (by omega) (by omega)
        exact⟨50,rfl,.inr ⟨rfl,⟨T'',s2,(k2.below hW2).turn q1 q2 q3,hto,fun p hp=>(q2 p (by have:=hch.size;omega)).trans (htg p hp)⟩,Zaj (hch'.trans (Zm hW2 _)) q3 (fun p hp e=>by rw[<-htg p hp];exact e),(hb1'.below hW2 hb1'.lt).mod q3 (fun e=>e hTb1)⟩⟩
      · have ew':({R with s:=s1}:RS).s.write (m:Int) (1+(((s*R.C+k:Nat)):Int)) (V m (s*R.C+k))=(0,s2):=ew
        rw[ew',Int.natCast_add]at kk;refine kk.mono ?_;rintro e w3 ⟨rfl,T'',q1,q2,q3⟩;have hl2':s2.lit=(s'.lit.ticks 0 (R.M-1)).put m (1+(s*R.C+k)) (V m (s*R.C+k)):=by rw[hl2,kl']
        have hp2:s2.pos=(s'.lit.put m (1+(s*R.C+k)) (V m (s*R.C+k))).pos:=by
          have:s2.lit.pos=((s'.lit.ticks 0 (R.M-1)).put m (1+(s*R.C+k)) (V m (s*R.C+k))).pos:=by rw[hl2']
          refine Eq.trans this ?_;obtain⟨y,i1,-⟩:=hik;have i2:s'.lit.pos (m*3)=some y:=i1;have i3:(s'.lit.ticks 0 (R.M-1)).pos (m*3)=some y:=i1;rw[Zo5 i2,Zo5 i3];rfl
        exact⟨0,rfl,.inl ⟨rfl,⟨T'',s2,(k2.below hW2).turn q1 q2 q3,by rw[hl2'];exact fnext,hv2,((hik.pos (s':=s'.lit) rfl).put).pos hp2,fun p hp=>(q2 p (by have:=hch.size;omega)).trans (htg p hp)⟩,Zaj (hch'.trans (Zm hW2 _)) q3 (fun p hp e=>by rw[<-htg p hp];exact e),(hb0'.below hW2 hb0'.lt).mod q3 (fun e=>e hTb),(hb1'.below hW2 hb1'.lt).mod q3 (fun e=>e hTb1)⟩⟩
    · have hto:Torn R V m (s*R.C) R.C L s1:=hhs.torn hik kd (by omega) (by omega) (by omega) (by omega) (by omega)
      exact⟨xa,xn,xc,sl,50,rfl,.inr ⟨rfl,⟨T',s1,k2,hto,htg⟩,hch',hb1'⟩⟩
  have HFL:Hid (∀W,LayT w2 W T A R lg vw X V m (s*R.C) R.C w.heap.size L->Calls Zw 56 #[Zs (some ⟨A.b,0,none⟩),O Z m] W fun e w'=>∃c:Nat,e=Zu (.int .u16 c)/\(c=0/\OffT w2 w' T A R lg vw X (fun s'=>Healed {R with s:=R.s.lit} V m (s*R.C) R.C s'.lit) w.heap.size\/c=50/\OffT w2 w' T A R lg vw X (Torn R V m (s*R.C) R.C L) w.heap.size)):=fun W hl=>by
    obtain⟨⟨T',s',hr,hhs,hlt,hik,htg⟩,hch,hb0,hb1⟩:=hl;have hcn2:s'.cnt 2=R.s.cnt 2:=hhs.c2;have hen:s'.n=R.s.n:=hhs.n;have hTb1:T' (w.heap.size+1)=0:=(htg _ (by rw[HZ2.out.1];omega)).trans (hVg _ (by omega));have k:=Zh8 hr.bay (m:Int) (by show s'.cnt 2≤_;omega) (show s'.small 1000000 from fun i hi x hx=>Zc (hhs.small _ hsm i hi x hx) (by omega));have hz2:=hch.size;rcases flush_t hhs.fit hlt m (by rw[hen];omega) (.inr rfl)with ⟨s2,ew,hdm⟩|⟨s2,ew,hl2,hv2⟩
    · have ew':({R with s:=s'}:RS).s.flush (m:Int)=(50,s2):=ew
      rw[ew']at k;refine k.mono ?_;rintro e w3 ⟨rfl,T'',q1,q2,q3⟩;exact⟨50,rfl,.inr ⟨rfl,⟨T'',s2,hr.turn q1 q2 q3,hhs.torn hik hdm (Za _) (by omega) (by omega) (by omega) (by omega),fun p hp=>(q2 p (by omega)).trans (htg p hp)⟩,Zaj hch q3 (fun p hp e=>by rw[<-htg p hp];exact e),hb1.mod q3 (fun e=>e hTb1)⟩⟩
    · have ew':({R with s:=s'}:RS).s.flush (m:Int)=(0,s2):=ew
      rw[ew']at k;refine k.mono ?_;rintro e w3 ⟨rfl,T'',q1,q2,q3⟩;exact⟨0,rfl,.inl ⟨rfl,⟨T'',s2,hr.turn q1 q2 q3,by show Healed _ _ _ _ _ s2.lit;rw[hl2];exact hhs.done hg hm,fun p hp=>(q2 p (by omega)).trans (htg p hp)⟩,Zaj hch q3 (fun p hp e=>by rw[<-htg p hp];exact e),hb1.mod q3 (fun e=>e hTb1)⟩⟩
  have HV:=hid hVg;have HFIN:Hid (∀(W:World) (P:BaySt->Prop) (sl:Int) (c:Nat),OffT w2 W T A R lg vw X P w.heap.size->(∀s',P s'->StepT R V m (s*R.C) R.C L sl c s')->LayEnd w T A R lg vw X V m (s*R.C) R.C L (Zu (.agg #[O Z sl,.int .u16 c])) ((W.setCell ⟨w.heap.size+1,0,none⟩ (O Z sl)).setCell ⟨w.heap.size+1,1,none⟩ (.int .u16 c))):=fun W P sl c ho hP=>by
    obtain⟨⟨T',s',k1,k2,k3⟩,k4,k5⟩:=ho;obtain⟨z1,z2⟩:=HZ2.out;have hst:Chg (fun p=>p=w.heap.size+1) W ((W.setCell ⟨w.heap.size+1,0,none⟩ (O Z sl)).setCell ⟨w.heap.size+1,1,none⟩ (.int .u16 c)):=Zk (S:=fun p=>p=w.heap.size+1) (Zk (S:=fun p=>p=w.heap.size+1) (Zl _ _) ⟨w.heap.size+1,0,none⟩ (.inl rfl) _) ⟨w.heap.size+1,1,none⟩ (.inl rfl) _;have hT1:T' (w.heap.size+1)=0:=(k3 _ (by omega)).trans (HV.out _ (by omega));have hc3:Chg (fun p=>T p≠0) w W:=(Zm z2 _).trans k4;exact⟨sl,c,T',s',rfl,k1.box k5 hT1 hst,hP s' k2,fun p hp=>k3 p (by omega),Zaj hc3 hst (fun p hp e=>by omega)⟩
  obtain⟨q,hq⟩:∃q:Nat,s*R.C=q:=⟨_,rfl⟩;have HQ:Hid ((s:Int)*(R.C:Int)=(q:Int)):=by show _=_;rw[<-hq,Int.natCast_mul]
  have hq4:q+R.C≤4096:=by omega
  rw[hq]at HI HSEC HFL HFIN ⊢;clear h hg hd hf hi ht hc0 hc1 hc2 hsm hw p1 hbx hb2 e1 e2 hVg hw2 hq hs hnn;have hqv:(s:Int)*(R.C:Int)=(q:Int):=HQ.out;unfold geo;go_enter Tryz.func54,Tryz.ntmps54;have a0:=HI.out.b0.cell 0;have a1:=HI.out.b0.cell 1;have a2:=HI.out.b0.cell 2;go_wp2;clear a0 a1 a2;go_loopw [13,21] (fun _ v wr=>∃k:Nat,k≤R.C/\v=O Z k/\LayT w2 wr T A R lg vw X V m q k w.heap.size L) (fun _ v _=>R.C-(intOf v).toNat);case atStart=>exact⟨0,by omega,rfl,HI.out⟩
  case round=>
    obtain⟨k,hk,rfl,hl⟩:=hrel;have a0:=hl.b0.cell 0;have a1:=hl.b0.cell 1;have a2:=hl.b0.cell 2;have hlt:=hl.b0.lt;by_cases hkC:k<R.C
    · have K1:Hid (k+1≤R.C):=hkC
      have HS:=hid (HSEC.out k wr hkC hl);clear hl;go_upto_if 39 with (go_at_call 107;(with_reducible refine HS.out.mono ?_);rintro e w3 ⟨xa,xn,xc,sl,c,rfl,hor⟩;clear a0 a1 a2 hlt;have HOR:=hid hor;have hN:=At.new w3 #[O Z sl,.int .u16 c] 33;have n0:=hN.cell 0;have n1:=hN.cell 1;clear hor hN)
      rcases HOR.out with ⟨rfl,rfl,rfl,hb0,hwr⟩|⟨rfl,hoff⟩
      · have HWR:=hid (hwr (w3.alloc (Zv #[O Z 0,.int .u16 0] 33)) ((Zb _ _).alloc (Za _) _))
        clear hb0 hwr HOR;go_upto_if 48 with (go_at_call 55;(with_reducible refine HWR.out.mono ?_);rintro e w4 ⟨c2,rfl,hor⟩;have HOR:=hid hor;clear hor n0 n1)
        rcases HOR.out with ⟨rfl,hl4⟩|⟨rfl,hoff⟩
        · have HL4:=hid hl4
          clear hl4 HOR;go_wp2_with fail;exact⟨⟨k+1,K1.out,by go_num,HL4.out⟩,by simp[intOf];have:=K1.out;omega⟩
        · have HO:=hid hoff
          have c0:=hoff.b1.cell 0;have c1:=hoff.b1.cell 1;have f0:=hoff.b1.free 0;have f1:=hoff.b1.free 1;clear hoff HOR;have HEND:=hid (HFIN.out w4 _ m 50 HO.out (fun s' hs'=>.inr ⟨rfl,hs'⟩));have hF:=(HO.out.b1.set 0 (O Z m)).set 1 (.int .u16 50);have r0:=hF.cell 0;have r1:=hF.cell 1;clear hF;go_wp2_with fail;(try simp only [Exit.inBlock,Exit.then]);refine bodyPost_ret (v:=.agg #[O Z m,.int .u16 50]) ?_ rfl HEND.out;rw[Zai rfl];go_simp;try rfl
      · have hoff2:=hoff.below ((Zb _ _).alloc (Za _) (Zv #[O Z sl,.int .u16 50] 33))
        have HO:=hid hoff2;have c0:=hoff2.b1.cell 0;have c1:=hoff2.b1.cell 1;have f0:=hoff2.b1.free 0;have f1:=hoff2.b1.free 1;clear hoff hoff2 HOR;have HEND:=hid (HFIN.out _ _ sl 50 HO.out (fun s' hs'=>.inr ⟨rfl,hs'⟩));have hF:=(HO.out.b1.set 0 (O Z sl)).set 1 (.int .u16 50);have r0:=hF.cell 0;have r1:=hF.cell 1;clear hF;go_wp2_with fail;(try simp only [Exit.inBlock,Exit.then]);refine bodyPost_ret (v:=.agg #[O Z sl,.int .u16 50]) ?_ rfl HEND.out;rw[Zai rfl];go_simp;try rfl
    · obtain rfl:k=R.C:=by omega
      have HF:=hid (HFL.out wr hl);clear hl;go_upto_if 57 with (go_at_call 56;(with_reducible refine HF.out.mono ?_);rintro e w3 ⟨c,rfl,hor⟩;have HOR:=hid hor;clear a0 a1 a2 hlt hor)
      have HEND:Hid (∃(sl:Int) (P:BaySt->Prop),(c=0->sl=0)/\(¬c=0->sl=m)/\(c=0\/c=50)/\OffT w2 w3 T A R lg vw X P w.heap.size/\∀s',P s'->StepT R V m q R.C L sl c s'):=by
        rcases HOR.out with ⟨rfl,ho⟩|⟨rfl,ho⟩
        · exact⟨0,_,fun _=>rfl,fun e=>absurd rfl e,.inl rfl,ho,fun s' hs'=>.inl ⟨rfl,rfl,hs'⟩⟩
        · exact⟨m,_,fun e=>absurd e (by decide),fun _=>rfl,.inr rfl,ho,fun s' hs'=>.inr ⟨rfl,hs'⟩⟩
      obtain⟨sl,P,z0,z1,z2,ho,hP⟩:=HEND.out;have HO:=hid ho;have c0:=ho.b1.cell 0;have c1:=ho.b1.cell 1;have f0:=ho.b1.free 0;have f1:=ho.b1.free 1;have HEN:=hid (HFIN.out w3 P sl c ho hP);have hF:=(ho.b1.set 0 (O Z sl)).set 1 (.int .u16 c);have r0:=hF.cell 0;have r1:=hF.cell 1;clear ho hP hF HOR HEND;rcases z2 with rfl|rfl
      · obtain rfl:sl=0:=z0 rfl
        clear z0 z1;go_wp2_with fail;(try simp only [Exit.inBlock,Exit.then]);refine bodyPost_ret (v:=.agg #[O Z 0,.int .u16 0]) ?_ rfl HEN.out;rw[Zai rfl];go_simp;try rfl
      · obtain rfl:sl=m:=z1 (by decide)
        clear z0 z1;go_wp2_with fail;(try simp only [Exit.inBlock,Exit.then]);refine bodyPost_ret (v:=.agg #[O Z m,.int .u16 50]) ?_ rfl HEN.out;rw[Zai rfl];go_simp;try rfl
theorem heal_step_t(h:RwIn w T A R lg vw X)(hg:Good {R with s:=R.s.lit} V)(ht:LiveT R.s)(hw:R.wait= [])(m s:Nat)(hm:m<R.M)(hs:s<R.S)(hd:∀k,k<R.C->R.dn m (s*R.C+k)=true)(hf:Fit R.s.lit (fun j=>R.G j\/j=m) R.szs)(hi:Inky R.s V m (s*R.C) 0 L)(hc0:R.s.cnt 0≤990000000000)(hc1:R.s.cnt 1≤990000000000)(hc2:R.s.cnt 2≤990000000000)(hsm:R.s.small 900000):
    Calls Zw 15 #[Zs (some ⟨A.b,0,none⟩),geo R.M R.C R.S,Zs (some ⟨A.q,0,none⟩),O Z m,O Z s] w (LayEnd w T A R lg vw X V m (s*R.C) R.C L):=by
  have hVg:=Zae h.bay;have e1:(w.alloc (Zv #[O Z R.M,O Z R.C,O Z R.S] 23)).heap.size=w.heap.size+1:=Zaa _ _;have hb2:Below w.heap.size w ((w.alloc (Zv #[O Z R.M,O Z R.C,O Z R.S] 23)).alloc (Zv #[O Z 0,.int .u16 0] 33)):=((Zb _ _).alloc (Za _) _).alloc (by rw[e1];omega) _;have hbx:=At.new (w.alloc (Zv #[O Z R.M,O Z R.C,O Z R.S] 23)) #[O Z 0,.int .u16 0] 33;rw[e1]at hbx;have hb0:At ((w.alloc (Zv #[O Z R.M,O Z R.C,O Z R.S] 23)).alloc (Zv #[O Z 0,.int .u16 0] 33)) w.heap.size #[O Z R.M,O Z R.C,O Z R.S] 23:=(At.new w _ _).alloc _;have HMY:=hid (Zmo (h.below hb2) hg.geo (show R.s.n=R.M+1 from hg.n) m s hm hs hd);have HLY:Hid (∀W,Below w.heap.size w W->Calls Zw 54 #[.agg #[O Z R.M,O Z R.C,O Z R.S],Zs (some ⟨A.q,0,none⟩),O Z m,O Z s,.func (.func 55) #[Zs (some ⟨A.b,0,none⟩)] #[],.func (.func 56) #[Zs (some ⟨A.b,0,none⟩)] #[]] W (LayEnd W T A R lg vw X V m (s*R.C) R.C L)):=fun W hW=>heal_lay_t (h.below hW) hg ht hw m s hm hs hd hf hi hc0 hc1 hc2 hsm
  have HB2:=hid hb2;have HBX:=hid hbx;have HB0:=hid hb0;have HV:=hid hVg;clear h hg hd hf hi ht hc0 hc1 hc2 hsm hw hb2 hbx hb0 hVg hm hs;unfold geo at*;go_enter Tryz.func15,Tryz.ntmps15;have a0:=HB0.out.cell 0;have a1:=HB0.out.cell 1;have a2:=HB0.out.cell 2
  go_wp2_with (first
    |(go_at_call 53;(with_reducible refine HMY.out.mono ?_);rintro e w3 ⟨rfl,hb3⟩;clear a0 a1 a2;have hx0:=HB0.out.below hb3 HB0.out.lt;have hx1:=HBX.out.below hb3 HBX.out.lt;have a0:=hx0.cell 0;have a1:=hx0.cell 1;have a2:=hx0.cell 2;have HX1:=hid hx1;have HB3:Hid (Below w.heap.size w w3):=(HB2.out.trans (hb3.mono HB2.out.size));clear hb3 hx0 hx1)
    |(go_at_call 54;(with_reducible refine(HLY.out w3 HB3.out).mono ?_);rintro e w4 ⟨sl,c,T',s',rfl,k1,k2,k3,k4⟩;clear a0 a1 a2;have hx1:=HX1.out.mod k4 (fun e=>e (HV.out _ (by omega)));have c0:=hx1.cell 0;have c1:=hx1.cell 1;have f0:=hx1.free 0;have f1:=hx1.free 1;have HX4:=hid hx1;have HK1:=hid k1;have HK2:=hid k2;have HK3:=hid k3;have HK4:=hid k4;clear k1 k2 k3 k4 hx1))
  have hz3:=HX1.out.lt;have hst:Chg (fun p=>p=w.heap.size+1) w4 ((w4.setCell ⟨w.heap.size+1,0,none⟩ (O Z sl)).setCell ⟨w.heap.size+1,1,none⟩ (.int .u16 c)):=Zk (S:=fun p=>p=w.heap.size+1) (Zk (S:=fun p=>p=w.heap.size+1) (Zl _ _) ⟨w.heap.size+1,0,none⟩ (.inl rfl) _) ⟨w.heap.size+1,1,none⟩ (.inl rfl) _;have hF:=(HX4.out.set 0 (O Z sl)).set 1 (.int .u16 c);have r0:=hF.cell 0;have r1:=hF.cell 1;have hT1:T' (w.heap.size+1)=0:=(HK3.out _ hz3).trans (HV.out _ (by omega));have hc3:Chg (fun p=>T p≠0) w w4:=(Zm HB3.out _).trans HK4.out;have hzw:=HB3.out.size;have HEND:Hid (LayEnd w T A R lg vw X V m (s*R.C) R.C L (Zu (.agg #[O Z sl,.int .u16 c])) ((w4.setCell ⟨w.heap.size+1,0,none⟩ (O Z sl)).setCell ⟨w.heap.size+1,1,none⟩ (.int .u16 c))):=
    ⟨sl,c,T',s',rfl,HK1.out.box HX4.out hT1 hst,HK2.out,fun p hp=>HK3.out p (by omega),Zaj hc3 hst (fun p hp e=>by omega)⟩
  clear hst hF HX4 HX1 HK1 HK2 HK3 HK4 c0 c1 f0 f1 hc3;(try simp only [Exit.inBlock,Exit.then]);refine bodyPost_ret (v:=.agg #[O Z sl,.int .u16 c]) ?_ rfl HEND.out;rw[Zai rfl];go_simp;try rfl
section
open Go.RowKit Go.ChangeShapes Go.WideShapes Go.ChangeAt Go.Deep
theorem bitss_of_trod{enc:TypeId×Value->H}{P:Program}{T E Q base:Nat}{d:DataW H}{ps:List MemPlace}
    (hT:P.underlying T=some (.slice E)) (hE:P.underlying E=some (.slice Q)) (hQ:P.underlying Q=some .bool) (hc:P.cellsOf E=1) (hq:P.cellsOf Q=1)
    (hv:Value.okWide P W .any base T v) (h:DataW.Trod enc P W 0 (fun _=>true) true T v d ps):∃ls,Bitzz W (fun _=>0) v ls:=by
  obtain⟨a,len,cap,rfl⟩:=okWide_slice hT hv;obtain⟨fuel,hf⟩:=h;rcases open_bool_rows hT hE hQ hc hq hf with ⟨hcs,_⟩|⟨x,l,c,A,L,C,B,hcs,_,hl,hm,_,hcell⟩
  · simp[Value.cells]at hcs
    obtain⟨rfl,rfl,rfl⟩:=hcs;exact⟨[],none,0,rfl,by simp,.inl rfl⟩
  · simp[Value.cells]at hcs
    obtain⟨rfl,rfl,rfl⟩:=hcs;have hlen:((List.range len).map fun r=>(List.range (L r)).map (B r)).length=len:=by simp
    refine⟨(List.range len).map fun r=>(List.range (L r)).map (B r),some x,cap,by rw[hlen],by rw[hlen];unfold maxLen at hm;omega,?_⟩;rcases Nat.eq_zero_or_pos len with h0|h0
    · left
      subst h0;rfl
    · right
      obtain⟨b,off,spot⟩:=x;have hspot:spot=none:=by simpa [Addr.add]using World.cell?_spot (hcell 0 (by omega)).1
      subst hspot;have hat:∀j,j<cap->W.cell? ⟨b,off+j,none⟩=some (.slice (A j) (L j) (C j)):=fun j hj=>by rw[<-Go.WideShapes.add_plain];exact(hcell j hj).1
      refine⟨b,off,rfl,block_lt_of_cell (hat 0 (by omega)),rfl,fun j hj=> ?_⟩;rw[hlen]at hj;obtain⟨-,k1,k2,k3,k4⟩:=hcell j (by omega);refine⟨_,hat j (by omega),?_⟩;rw[List.getElem_map,List.getElem_range];have hL:((List.range (L j)).map (B j)).length=L j:=by simp
      refine⟨A j,C j,by rw[hL],by rw[hL];unfold maxLen at k2;omega,?_⟩;rcases Nat.eq_zero_or_pos (L j)with h1|h1
      · left
        rw[h1];rfl
      · right
        obtain⟨y,hy⟩:∃y,A j=some y:=by
          cases hA:A j with
          |none=>have:=k3 hA;omega
          |some y=>exact⟨y,rfl⟩
        obtain⟨-,k5⟩:=k4 y hy;obtain⟨b',off',spot'⟩:=y;have hspot:spot'=none:=by simpa [Addr.add]using World.cell?_spot (k5 0 (by omega))
        subst hspot;have hbt:∀i,i<C j->W.cell? ⟨b',off'+i,none⟩=some (.bool (B j i)):=fun i hi=>by rw[<-Go.WideShapes.add_plain];exact k5 i hi
        refine⟨b',off',hy,block_lt_of_cell (hbt 0 (by omega)),rfl,fun i hi=> ?_⟩;rw[hL]at hi;rw[hbt i (by omega)];simp
section
variable {w0 W:World} {T:Nat->Nat} {A:Adr} {R:RS} {V:Nat->Nat->Sec} {L:List (Nat×Array Value×TypeId)} {M C S ring m a b:Nat} {lazy:Bool}
theorem Bitz.at'(h:Bitz w0 (fun _=>0) v l)(hb:Below w0.heap.size w0 w)(ht:∀q,q<w0.heap.size->T q=0):Bitz w T v l:=by
  obtain⟨a,c,h1,h2,h3⟩:=h;refine⟨a,c,h1,h2,h3.imp id ?_⟩;rintro ⟨b,o,h3,h4,-,h6⟩;exact⟨b,o,h3,Zd h4 hb.size,ht b h4,fun j hj=>(hb.cell (p:=⟨b,o+j,none⟩) h4).trans (h6 j hj)⟩
theorem Bitzz.at'(h:Bitzz w0 (fun _=>0) v ls)(hb:Below w0.heap.size w0 w)(ht:∀q,q<w0.heap.size->T q=0):Bitzz w T v ls:=by
  obtain⟨a,c,h1,h2,h3⟩:=h;refine⟨a,c,h1,h2,h3.imp id ?_⟩;rintro ⟨b,o,h3,h4,-,h6⟩;refine⟨b,o,h3,Zd h4 hb.size,ht b h4,fun j hj=> ?_⟩;obtain⟨u,k1,k2⟩:=h6 j hj;exact⟨u,(hb.cell (p:=⟨b,o+j,none⟩) h4).trans k1,k2.at' hb ht⟩
theorem Bitzz.below(h:Bitzz w (fun _=>0) v ls)(hb:Below w.heap.size w w'):Bitzz w' (fun _=>0) v ls:=h.at' hb (fun _ _=>rfl)
theorem n_cut{ks:List (List Bool)}(h:Hb w0 W T A R L)(hv:Bitzz w0 (fun _=>0) v ks)(hs:R.s.small 1000000)(ha:∀q,q%3≠0->R.s.pos q=none):
    Calls Zw 37 #[Zs (some ⟨A.b,0,none⟩),v] W fun e w'=>e=Zu (.tuple #[])/\Hb w0 w' T A {R with s:=R.s.cut ks} L/\Stp W T A w' T:=by
  obtain⟨lg,vw,X,hr⟩:=h.hn.rw;refine(bay_cut0 hr.bay v ks (hv.at' h.hn.bel fun q hq=>(h.hn.old q hq).1) hs.in fun k=>ha _ (by omega)).mono ?_;rintro e w' ⟨rfl,k1,k2⟩;have hst:Stp W T A w' T:=Stp.ofBay k2;obtain⟨k4,k5⟩:=h.hn.next hst;exact⟨rfl,h.step ⟨⟨lg,vw,X,hr.turn k1 (fun _ _=>rfl) k2⟩,k4,k5⟩ hst,hst⟩
theorem n_trip(h:Hb w0 W T A R L)(p:HoP R V M C S m a b)(n:Int)(hn:n≤9223372036854775807):
    Calls Zw 38 #[Zs (some ⟨A.b,0,none⟩),O Z n] W fun e w'=>∃(c:Nat) (s':BaySt),e=Zu (.int .u16 c)/\Hb w0 w' T A {R with s:=s'} L/\Stp W T A w' T/\s'.lit=R.s/\LiveT s':=by
  obtain⟨lg,vw,X,hr⟩:=h.hn.rw;have hT:T A.b≠0:=by
    obtain⟨gs,ptr,tg,dp,hin⟩:=hr.bay;rw[hin.tb];decide
  refine(bay_trip hr.bay n hn).mono ?_;rintro e w' ⟨rfl,k1,k2⟩;have k2':Chg (fun q=>T q≠0) W w':=k2.mono fun q e=>by rw[e];exact hT
  have hst:Stp W T A w' T:=Stp.ofBay k2';obtain⟨k4,k5⟩:=h.hn.next hst;have hd:=p.fit.dark;have htr:=p.fit.trip;have hlit:R.s.lit=R.s:=by
    show({R.s with dark:=false,trip:= -1}:BaySt)=R.s
    rw[<-hd,<-htr]
  by_cases hneg:n<0
  · simp only [Zf hneg]at k1 ⊢
    exact⟨1,R.s,rfl,h.step ⟨⟨lg,vw,X,hr.turn k1 (fun _ _=>rfl) k2'⟩,k4,k5⟩ hst,hst,hlit,hd,by omega⟩
  · have hdn:¬R.s.dark=true:=by rw[hd];simp
    simp only [Ze hneg,Ze hdn]at k1 ⊢;exact⟨0,_,rfl,h.step ⟨⟨lg,vw,X,hr.turn k1 (fun _ _=>rfl) k2'⟩,k4,k5⟩ hst,hst,hlit,hd,by show -1≤n;omega⟩
end
end
section
theorem lit_cutTo(s:BaySt)(ks:List (List Bool)):∀k,s.lit.cutTo ks k=(s.cutTo ks k).lit
  |0=>rfl
  |k+1=>by
    show((s.lit.cutTo ks k).crashAt k (ks.getD k [])).come k=((((s.cutTo ks k).crashAt k (ks.getD k [])).come k)).lit
    rw[lit_cutTo s ks k];show(((s.cutTo ks k).crashAt k (ks.getD k [])).lit).come k=_
    unfold BaySt.come;show(match ((s.cutTo ks k).crashAt k (ks.getD k [])).pos (k*3+2)with|none=>_|some y=>_)=_
    cases ((s.cutTo ks k).crashAt k (ks.getD k [])).pos (k*3+2)<;>rfl
theorem lit_cut(s:BaySt)(ks:List (List Bool)):s.lit.cut ks=s.cut ks:=by
  show({s.lit.cutTo ks s.n with dark:=false,trip:= -1}:BaySt)={s.cutTo ks s.n with dark:=false,trip:= -1}
  rw[lit_cutTo];rfl
structure Rest (R:RS) (m:Nat):Prop where
  dry:∀j,j<R.M->j≠m->R.s.dry j
  aside:∀q,q%3≠0->R.s.pos q=none
section
variable {R:RS} {V:Nat->Nat->Sec} {M C S m a b:Nat}
theorem HoP.cut(h:HoP R V M C S m a b)(hr:Rest R m)(hn:t.n=R.s.n)(hp:∀p,p≠m*3->t.pos p=R.s.pos p)(hd:∃x,t.pos (m*3)=some x/\CalmDev x (R.szs m))(hc:∀j,j<3->t.cnt j≤R.s.cnt j+1000)(hs:∀x,R.s.small x->t.small (x+C))(ks:List (List Bool)):
    HoP {R with s:=t.cut ks} V M C S m (a+1000) (b+16)/\Rest {R with s:=t.cut ks} m:=by
  have ha:∀q,q%3≠0->t.pos q=none:=fun q hq=>(hp q (by omega)).trans (hr.aside q hq)
  have hgi:=(Zam R.M R.C R.S).1 h.good.geo;have hC:=h.C;have hM:=h.M;have hRn:=h.n;have hmm:=h.m
  have hf : Fit t.lit (fun _ => True) R.szs := ⟨rfl, rfl, fun j hj _ => by
    by_cases e:j=m
    · subst e;exact hd
    · show ∃x,t.pos (j*3)=some x/\_
      rw[hp (j*3) (by omega)]
      have hj':j<t.n:=hj
      exact h.fit.dev j (by omega) trivial⟩
  have hcf:=cut_fit hf ha ks;rw[lit_cut]at hcf;have hcn:(t.cut ks).n=R.s.n:=(cutTo_n t ks t.n).trans hn;have hpos:∀j,j<R.M->j≠m->(t.cut ks).pos (j*3)=R.s.pos (j*3):=fun j hj e=>by
    obtain⟨y,h1,h2⟩:=hr.dry j hj e;rw[cut_pos t ha ks j (by omega),hp (j*3) (by omega),h1];show some (y.crash _)=_
    rw[crash_dry h2]
  have hcc:∀j,(t.cut ks).cnt j=t.cnt j:=fun j=>congrFun (cutTo_cnt t ks t.n) j
  obtain⟨b0,b1,b2,b3,x,b4,b5⟩:=h.bud;refine⟨⟨h.good.aside hcn (hcf.sub fun _ _=>trivial) (fun i r hi hr' hu=>Zcn (hpos i hi (fun e=>by subst e;rw[h.down]at hu;cases hu)) _),h.wait,⟨?_,?_,?_,by show R.next≤_;omega,x+C,cut_small ha ks (hs x b4),by show x+C+R.wait.length≤_;omega⟩,hcf,h.down,h.m,h.M,h.C,h.S⟩,⟨fun j hj e=> ?_,fun q hq=> ?_⟩⟩
  · show(t.cut ks).cnt 0≤_;rw[hcc];have:=hc 0 (by omega);omega
  · show(t.cut ks).cnt 1≤_;rw[hcc];have:=hc 1 (by omega);omega
  · show(t.cut ks).cnt 2≤_;rw[hcc];have:=hc 2 (by omega);omega
  · obtain⟨y,h1,h2⟩:=hr.dry j hj e
    exact⟨y,(hpos j hj e).trans h1,h2⟩
  · show(t.cutTo ks t.n).pos q=none
    rw[cutTo_alone t ha,Ze (by omega)];exact ha q hq
theorem HoP.cutHealed(h:HoP R V M C S m a b)(hr:Rest R m)(k:Healed R V m q C t.lit)(ks:List (List Bool)):
    HoP {R with s:=t.cut ks} V M C S m (a+1000) (b+16)/\Rest {R with s:=t.cut ks} m/\(t.cut ks).dry m/\∀z,(t.cut ks).sec m z=t.lit.sec m z:=by
  have hgi:=(Zam R.M R.C R.S).1 h.good.geo;have hC:=h.C;have hM:=h.M;have hmm:=h.m;have hRn:=h.n;have hP:C*(R.M-1)≤16*16:=Nat.mul_le_mul (by omega) (by omega);have ktn:t.n=R.s.n:=k.n;have hx:=k.fit.dev m (by show m<t.n;omega) (.inr rfl);have k0:t.cnt 0=R.s.cnt 0+((C*(R.M-1):Nat):Int):=k.c0;have k1:t.cnt 1=R.s.cnt 1+(C:Int):=k.c1;have k2:t.cnt 2=R.s.cnt 2+1:=k.c2
  obtain ⟨g1, g2⟩ := h.cut hr ktn k.pos hx (fun j hj => by
    have:j=0\/j=1\/j=2:=by omega
    rcases this with e|e|e<;>subst e<;>omega) k.small ks
  have ha:∀q,q%3≠0->t.pos q=none:=fun q hq=>(k.pos q (by omega)).trans (hr.aside q hq)
  obtain⟨y,h1,h2⟩:=k.dry;have h1':t.pos (m*3)=some y:=h1;have e:(t.cut ks).pos (m*3)=t.lit.pos (m*3):=by
    rw[cut_pos t ha ks m (by omega),h1'];show some (y.crash _)=_
    rw[crash_dry h2];exact h1.symm
  exact⟨g1,g2,⟨y,e.trans h1,h2⟩,fun z=>Zcn e _⟩
theorem HoP.cutTorn{R1:RS}{n:Nat}(h:HoP R V M C S m a b)(hr:Rest R m)(h1:R1.s.lit=R.s)(h2:R1.szs=R.szs)(k:Torn R1 V m q C (freshDsk n).last t)(ks:List (List Bool)):
    HoP {R with s:=t.cut ks} V M C S m (a+1000) (b+16)/\Rest {R with s:=t.cut ks} m/\∀z,¬(q+1≤z/\z<q+1+C)->(t.cut ks).sec m z=zsec:=by
  have hn:t.n=R.s.n:=by rw[<-h1];exact k.n
  have hp:∀p,p≠m*3->t.pos p=R.s.pos p:=fun p hp=>by rw[<-h1];exact k.pos p hp
  have hd:=k.dev;rw[h2]at hd;obtain⟨g1,g2⟩:=h.cut hr hn hp hd (fun j hj=>by rw[<-h1];exact k.cnt j hj) (fun x hx=>k.small x (fun i hi y hy=>hx i (by rw[<-h1];exact hi) y (by rw[<-h1];exact hy))) ks;refine⟨g1,g2,fun z hz=> ?_⟩;have ha:∀q,q%3≠0->t.pos q=none:=fun q hq=>(hp q (by omega)).trans (hr.aside q hq)
  have hmm:=h.m;have hRn:=h.n;obtain⟨x,i1,i2,i3⟩:=k.ink;have e:(t.cut ks).pos (m*3)=some (x.crash (ks.getD m [])):=by rw[cut_pos t ha ks m (by omega),i1];rfl
  rw[Zdt e];show(Dsk.crash x.d (ks.getD m [])).cur z=_
  unfold Dsk.cur Dsk.crash;have e0:waits ([]:List (Nat×Sec)) (z:Int)=none:=rfl;rw[e0,Option.getD_none];rcases settleTo_mem x.d.last x.d.cache (fun i=>(ks.getD m []).getD i false) z x.d.cache.length with e1|⟨p,hp1,hp2,hp3⟩
  · rw[e1,i2]
    show(List.replicate n zsec).getD z zsec=zsec
    rw[Zi,List.getElem?_replicate];split<;>rfl
  · obtain⟨a1,a2,a3⟩:=i3 p hp1
    omega
theorem fresh_zsec{n:Nat}(h:s.pos (m*3)=some ⟨freshDsk n,false,0⟩)(z:Nat):s.sec m z=zsec:=by
  rw[Zdt h];show(waits [] (z:Int)).getD ((List.replicate n zsec).getD z zsec)=zsec
  have e0:waits ([]:List (Nat×Sec)) (z:Int)=none:=rfl;rw[e0,Option.getD_none,Zi,List.getElem?_replicate];split<;>rfl
theorem fresh_inky{n:Nat}(h:s.pos (m*3)=some ⟨freshDsk n,false,0⟩):Inky s V m q 0 (freshDsk n).last:=⟨_,h,rfl,fun p hp=>by cases hp⟩
end
theorem flat_get(h:∀s∈L,s.length=128){n:Nat}(hl:L.length=n)(hF:∀z,z<n->L[z]?=some (F z))(k:Nat)(hk:k<128*n):L.flatten[k]?=(F (k/128))[k%128]?:=by
  have hz:k/128<n:=by omega
  have e:=Zqs h (i:=k/128) (j:=k%128) (by omega) (by omega);rw[show 128*(k/128)+k%128=k by omega]at e;rw[e];have:=hF _ hz;rw[Zh (by omega)]at this;rw[Option.some.inj this]
theorem zsec_get(j:Nat)(h:j<128):zsec[j]?=some 0:=by unfold zsec;rw[List.getElem?_replicate,Zf h]
end
section
section
variable {w0 W:World} {T:Nat->Nat} {A:Adr} {R R0:RS} {V:Nat->Nat->Sec} {L:List (Nat×Array Value×TypeId)} {M C S ring m a b:Nat} {lazy:Bool}
theorem Hb.twos{n:Nat}(h:Hb w0 W T A R L)(hb1:At W n cs 33)(hw:w0.heap.size≤n)(hT:T n=0)(ht:∀x∈L,x.1≠n)(x:Int)(c:Nat)(h2:cs.size=2):Hb w0 ((W.setCell ⟨n,0,none⟩ (O Z x)).setCell ⟨n,1,none⟩ (.int .u16 c)) T A R ((n,#[O Z x,.int .u16 c],33)::L):=by
  have hst:Chg (fun p=>p=n) W ((W.setCell ⟨n,0,none⟩ (O Z x)).setCell ⟨n,1,none⟩ (.int .u16 c)):=Zk (S:=fun p=>p=n) (Zk (S:=fun p=>p=n) (Zl _ _) ⟨n,0,none⟩ (.inl rfl) _) ⟨n,1,none⟩ (.inl rfl) _;obtain⟨lg,vw,X,hr⟩:=h.hn.rw;refine⟨⟨⟨lg,vw,X,hr.box hb1 hT hst⟩,h.hn.old,h.hn.bel.trans (hst.below fun q hq=>⟨Zd hq h.hn.bel.size,fun e=>by omega⟩)⟩,fun y hy=> ?_⟩;rcases List.mem_cons.1 hy with e|e
  · subst e
    have hcs:(cs.setIfInBounds 0 (O Z x)).setIfInBounds 1 (.int .u16 c)= #[O Z x,.int .u16 c]:=by
      apply Array.ext
      · simp[h2]
      · intro i h3 h4
        have:i=0\/i=1:=by simp at h4;omega
        rcases this with e|e<;>subst e<;>simp[h2]
    have k:=(hb1.set 0 (O Z x)).set 1 (.int .u16 c);rw[hcs]at k;exact⟨k,hT,(by decide:(101:TypeId)≠33),(by decide:(3:TypeId)≠33),(by decide:(133:TypeId)≠33),(by decide:(203:TypeId)≠33)⟩
  · obtain⟨k1,k2⟩:=h.box y e
    exact⟨k1.mod hst (ht y e),k2⟩
theorem ht_image(h:Hb w0 W T A R L)(hf:Fit R.s G sz)(j:Nat)(hn:j<R.s.n)(hg:G j)(hz:sz j≤8192):
    Calls Zw 34 #[Zs (some ⟨A.b,0,none⟩),O Z j] W fun e w'=>∃v,e=Zu (.tuple #[v,.int .u16 0])/\OwnT w' T W.heap.size 5 v (ucells (imgB R.s j))/\Below W.heap.size W w'/\(imgB R.s j).length=128*sz j:=by
  obtain⟨lg,vw,X,hr⟩:=h.hn.rw;obtain⟨x,hx,hc⟩:=hf.dev j hn hg;have k:=Ztg hr.bay (j:Int);rw[Zpl hn hx,Ze (by rw[hc.failed];simp)]at k;have hl:=Zip hc.secs;refine k.mono ?_;rintro e w' ⟨v,rfl,h1,h2,-⟩;obtain⟨k1,k2⟩:=h2 _ rfl;have e:imgB R.s j=x.d.last.flatten:=by unfold imgB;rw[hx]
  rw[e];rw[Zci,Nat.mul_comm,<-hl,<-Zag]at k2;exact⟨v,rfl,⟨k2,fun g hg=>h.hn.virg g (k2.lt g hg).1⟩,h1,by rw[hl,hc.len]⟩
theorem ht_step{s1:BaySt}{n:Nat}(h:Hb w0 W T A {R with s:=s1} L)(p:HoP R V M C S m a b)(hin:Within a b)(h1:s1.lit=R.s)(h2:LiveT s1)(hfr:R.s.pos (m*3)=some ⟨freshDsk n,false,0⟩)(s:Nat)(hs:s<S):
    Calls Zw 15 #[Zs (some ⟨A.b,0,none⟩),.agg #[O Z M,O Z C,O Z S],Zs (some ⟨A.q,0,none⟩),O Z m,O Z s] W fun e w'=>∃(sl:Int) (c:Nat) (T':Nat->Nat) (s2:BaySt),e=Zu (.agg #[O Z sl,.int .u16 c])/\Hb w0 w' T' A {R with s:=s2} L/\Stp W T A w' T'/\(c=0/\sl=0/\Healed R V m (s*C) C s2.lit\/c=50/\Torn {R with s:=s1} V m (s*C) C (freshDsk n).last s2):=by
  have i1:=hin.a;have i2:=hin.b;have b0:=p.bud.c0;have b1:=p.bud.c1;have b2:=p.bud.c2;obtain⟨lg,vw,X,hr⟩:=h.hn.rw;have hcn:∀j,s1.cnt j=R.s.cnt j:=fun j=>by
    have:s1.lit.cnt j=R.s.cnt j:=by rw[h1]
    exact this
  have hps:s1.pos=R.s.pos:=by
    have:s1.lit.pos=R.s.pos:=by rw[h1]
    exact this
  have hnn:s1.n=R.s.n:=by
    have:s1.lit.n=R.s.n:=by rw[h1]
    exact this
  have hbs:=p.bud.small' (show b≤900000 by omega);have eR:({R with s:=s1.lit}:RS)=R:=by rw[h1]
  have k:=heal_step_t (R:={R with s:=s1}) (V:=V) (L:=(freshDsk n).last) hr (by show Good {R with s:=s1.lit} V;rw[eR];exact p.good) h2 p.wait m s (by show m<R.M;rw[p.M];exact p.m) (by show s<R.S;rw[p.S];exact hs) (fun k _=>p.down _) (by show Fit s1.lit _ _;rw[h1];exact p.fit.sub fun _ _=>trivial) ((fresh_inky hfr).pos hps) (by show s1.cnt 0≤_;rw[hcn];omega) (by show s1.cnt 1≤_;rw[hcn];omega) (by show s1.cnt 2≤_;rw[hcn];omega) (fun i hi x hx=>hbs i (by rw[<-hnn];exact hi) x (by rw[<-hps];exact hx));have e0:geo ({R with s:=s1}:RS).M ({R with s:=s1}:RS).C ({R with s:=s1}:RS).S=.agg #[O Z M,O Z C,O Z S]:=by show Value.agg #[O Z R.M,O Z R.C,O Z R.S]=_;rw[p.M,p.C,p.S]
  rw[e0]at k;refine k.mono ?_;rintro e w' ⟨sl,c,T',s2,rfl,k1,k2,k3,k4⟩;have hst:Stp W T A w' T':=⟨k3,k4.mono fun q e=>.inl e⟩;obtain⟨k5,k6⟩:=h.hn.next hst;refine⟨sl,c,T',s2,rfl,h.step ⟨⟨lg,vw,X,k1⟩,k5,k6⟩ hst,hst,?_⟩;rcases k2 with ⟨z1,z2,z3⟩|⟨z1,z2⟩
  · refine .inl ⟨z1,z2,?_⟩
    have z4:Healed {R with s:=s1.lit} V m (s*R.C) R.C s2.lit:=z3;rw[eR,p.C]at z4;exact z4
  · refine .inr ⟨z1,?_⟩
    have z4:Torn {R with s:=s1} V m (s*R.C) R.C (freshDsk n).last s2:=z2;have z5:∀k,k=C->Torn {R with s:=s1} V m (s*k) k (freshDsk n).last s2->Torn {R with s:=s1} V m (s*C) C (freshDsk n).last s2:=by
      rintro k rfl h;exact h
    exact z5 _ p.C z4
theorem hh_step(h:Hb w0 W T A R L)(p:HoP R V M C S m a b)(hin:Within a b)(s:Nat)(hs:s<S):
    Calls Zw 15 #[Zs (some ⟨A.b,0,none⟩),.agg #[O Z M,O Z C,O Z S],Zs (some ⟨A.q,0,none⟩),O Z m,O Z s] W fun e w'=>e=Zu (.agg #[O Z 0,.int .u16 0])/\∃T' s',Hb w0 w' T' A {R with s:=s'} L/\Stp W T A w' T'/\Healed R V m (s*C) C s':=by
  have i1:=hin.a;have i2:=hin.b;have b0:=p.bud.c0;have b1:=p.bud.c1;have b2:=p.bud.c2;have k:=Zvb (h.lat p.good (.inr p.wait)) p.wait m s (by rw[p.M];exact p.m) (by rw[p.S];exact hs) (fun k _=>p.down _) (p.fit.sub fun _ _=>trivial) (by omega) (by omega) (by omega) (p.bud.small' (by omega));have e0:(.agg #[O Z R.M,O Z R.C,O Z R.S]:Value)=.agg #[O Z M,O Z C,O Z S]:=by rw[p.M,p.C,p.S]
  rw[e0]at k;refine k.mono ?_;rintro e w' ⟨rfl,T',s',k1,k2,k3⟩;rw[p.C]at k3;exact⟨rfl,T',s',h.step k1.hn k2,k2,k3⟩
theorem Rest.anew(h:HcP R V M C S ring lazy a b)(hc:Clean R)(m:Nat):Rest (R.anew m) m:=by
  have hd:∀j r,R.dn j r=false:=fun j r=>by unfold RS.dn;rw[h.up];simp
  refine⟨fun j hj e=> ?_,fun q hq=> ?_⟩
  · obtain⟨x,h1,h2,-⟩:=hc j hj (hd j 0)
    exact⟨x,(Ze (by omega)).trans h1,h2⟩
  · show(if q=m*3 then _ else R.s.pos q)=none
    rw[Ze (by omega)];exact h.aside q hq
end
def ImgOf(l:List UInt8)(n:Nat)(F:Nat->Sec):Prop:=l.length=128*n/\∀k,k<128*n->l[k]?=(F (k/128))[k%128]?
theorem img_of(hf:Fit s G sz)(hm:m<s.n)(hg:G m)(hd:s.dry m)(hF:∀z,z<sz m->s.sec m z=F z):ImgOf (imgB s m) (sz m) F:=by
  obtain⟨L,h1,h2,h3⟩:=Zx1 hf hm hg hd;obtain⟨x,hx,hc⟩:=hf.dev m hm hg;have hL:∀y∈L,y.length=128:=fun y hy=>by
    obtain⟨i,hi,rfl⟩:=List.getElem_of_mem hy;have:=h3 i (by omega);rw[Zh hi]at this;rw[Option.some.inj this,Zdt hx];exact cur_length hc i
  rw[h1];refine⟨by rw[Zip hL,h2],fun k hk=> ?_⟩;rw[flat_get hL h2 h3 k hk,hF _ (by omega)]
theorem img_mid{l l':List UInt8}{n t:Nat}{F':Nat->Sec}(h:ImgOf l n F)(h':ImgOf l' n F')(hft:f≤t)(ht:t≤n)(hF:∀z,f≤z->z<t->F z=F' z):(l.drop (128*f)).take (128*t-128*f)=(l'.drop (128*f)).take (128*t-128*f):=by
  apply List.ext_getElem?;intro i;rw[List.getElem?_take,List.getElem?_take];by_cases hi:i<128*t-128*f
  · rw[Zf hi,Zf hi,List.getElem?_drop,List.getElem?_drop,h.2 _ (by omega),h'.2 _ (by omega),hF _ (by omega) (by omega)]
  · rw[Ze hi,Ze hi]
theorem img_zero{l:List UInt8}{n t:Nat}(h:ImgOf l n F)(hF:∀z,¬(f≤z/\z<t)->F z=zsec)(k:Nat)(hk:k<128*n)(hkn:¬(128*f≤k/\k<128*t)):l[k]?=some 0:=by
  rw[h.2 k hk,hF _ (by omega),zsec_get _ (by omega)]
theorem OwnT.mid{n t:Nat}{l:List UInt8}(h:OwnT w T n 5 (Zt (some ⟨g,0,none⟩) (ucells l).length c) (ucells l))(hft:f<t)(ht:t≤l.length):Seg w (Zt (some ⟨g,f,none⟩) (t-f) (c-f)) ((l.drop f).take (t-f)):=by
  have hs:=Zxo h.own;obtain⟨a,cap,hv,h1,h2⟩:=hs;rw[Zag]at hv;simp only [Zn]at hv;obtain⟨rfl,-,rfl⟩:=hv;have hl:((l.drop f).take (t-f)).length=t-f:=by rw[List.length_take,List.length_drop];omega
  refine⟨some ⟨g,f,none⟩,c-f,by rw[hl],⟨fun e=>(by cases e),by rw[hl];omega⟩,.inr ⟨g,f,rfl,?_,fun j hj=> ?_⟩⟩
  · rcases h2 with h2|⟨b',o',e,hb,-⟩
    · subst h2;simp at ht;omega
    · simp only [Zg,Addr.mk.injEq]at e
      rw[e.1];exact hb
  · rw[hl]at hj
    rcases h2 with h2|⟨b',o',e,hb,hc⟩
    · subst h2;simp at ht;omega
    · simp only [Zg,Addr.mk.injEq]at e
      obtain⟨rfl,rfl,-⟩:=e;have:=hc (f+j) (by omega);rw[Nat.zero_add]at this;rw[this,List.getElem_take,List.getElem_drop]
section
variable {w0 W W':World} {T T':Nat->Nat} {A:Adr} {R R':RS} {V:Nat->Nat->Sec} {L:List (Nat×Array Value×TypeId)} {M C S ring m a b:Nat} {lazy:Bool}
theorem ht_fail(h:Hb w0 W T A R L)(hp:HcP R V M C S ring lazy a b)(hb:b≤900000)(hm:m<M):
    Calls Zw 30 #[Zs (some ⟨A.b,0,none⟩),O Z m] W fun e w'=>e=Zu (.int .u16 0)/\Hb w0 w' T A {R with s:=R.s.lose m} L/\Stp W T A w' T:=by
  have hn:m<R.s.n:=by rw[hp.good.n,hp.M];omega
  obtain⟨x,hx,-⟩:=(hp.good.allUp hp.up).dev m hn trivial;refine(Zw6 h.hn m hn x hx (hp.bud.small' (by omega))).mono ?_;rintro e w' ⟨rfl,k1,k2⟩;exact⟨rfl,h.step k1 k2,k2⟩
theorem ht_swap(h:Hb w0 W T A {R with s:=R.s.lose m} L)(hp:HcP R V M C S ring lazy a b)(hm:m<M){z:Int}(hP:S*C=P)(hz:z=1+(P:Int)):
    Calls Zw 31 #[Zs (some ⟨A.b,0,none⟩),O Z m,O Z z] W fun e w'=>e=Zu (.int .u16 0)/\∃T',Hb w0 w' T' A {R with s:=R.s.laid (m*3) ⟨freshDsk (1+R.S*R.C),false,0⟩} L/\Stp W T A w' T':=by
  have hn:m<R.s.n:=by rw[hp.good.n,hp.M];omega
  obtain⟨x,hx,-⟩:=(hp.good.allUp hp.up).dev m hn trivial;have hx':(R.s.lose m).pos (m*3)=some ⟨⟨x.d.last,[],true⟩,x.worn,x.left⟩:=by
    show(if m*3=m*3 then (R.s.pos (m*3)).map (fun x=>(⟨⟨x.d.last,[],true⟩,x.worn,x.left⟩:Dev))else R.s.pos (m*3))=_
    rw[Zf rfl,hx];rfl
  have h2:(R.s.lose m).pos (m*3+2)=none:=by
    show(if m*3+2=m*3 then (R.s.pos (m*3+2)).map (fun x=>(⟨⟨x.d.last,[],true⟩,x.worn,x.left⟩:Dev))else R.s.pos (m*3+2))=_
    rw[Ze (by omega)];exact hp.aside _ (by omega)
  have hf:R.S*R.C≤4096:=(Zbe hp.good.geo).2.2.2;have k:=Zw3 (R:={R with s:=R.s.lose m}) h.hn m (1+R.S*R.C) hn hx' rfl h2 (by omega) (by omega);have e3:((1+R.S*R.C:Nat):Int)=z:=by rw[hz,<-hP,hp.S,hp.C];omega
  rw[e3]at k;refine k.mono ?_;rintro e w' ⟨rfl,T',k1,k2⟩;have e:({({R with s:=R.s.lose m}:RS)with s:=({R with s:=R.s.lose m}:RS).s.laid (m*3) ⟨freshDsk (1+R.S*R.C),false,0⟩}:RS)={R with s:=R.s.laid (m*3) ⟨freshDsk (1+R.S*R.C),false,0⟩}:=by
    show({R with s:=(R.s.lose m).laid (m*3) ⟨freshDsk (1+R.S*R.C),false,0⟩}:RS)=_
    rw[Zs4]
  rw[e]at k1;exact⟨rfl,T',h.step k1 k2,k2⟩
theorem ht_mark(h:Hb w0 W T A {R with s:=R.s.laid (m*3) ⟨freshDsk (1+R.S*R.C),false,0⟩} L)(hp:HcP R V M C S ring lazy a b)(hm:m<M):
    Calls Zw 13 #[Zs (some ⟨A.q,0,none⟩),O Z m,.bool true,O Z 0] W fun e w'=>e=Zu (.tuple #[])/\Hb w0 w' T A (R.anew m) L/\Stp W T A w' T:=by
  refine(Zvf h.hn m true (by show m<R.M;rw[hp.M];exact hm)).mono ?_;rintro e w' ⟨rfl,k1,k2⟩;exact⟨rfl,h.step k1 k2,k2⟩
abbrev tcBox(u:Nat)(x:Int)(c:Nat):Nat×Array Value×TypeId:=(u,#[O Z x,.int .u16 c],33)
structure Pic (W:World) (T:Nat->Nat) (n g c:Nat) (I:List UInt8) (N:Nat):Prop where
  own:OwnT W T n 5 (Zt (some ⟨g,0,none⟩) (128*N) c) (ucells I)
  len:I.length=128*N
theorem Pic.below{n:Nat}(h:Pic W T n g c I N)(hb:Below W.heap.size W W'):Pic W' T n g c I N:=⟨h.own.below hb,h.len⟩
theorem Pic.step{n:Nat}(h:Pic W T n g c I N)(s:Stp W T A W' T')(hA:∀q,A.has q->q<n):Pic W' T' n g c I N:=⟨h.own.step s hA,h.len⟩
theorem Pic.twos{n u:Nat}(h:Pic W T n g c I N)(ha:At W u cs 33)(x:Int)(k:Nat):Pic ((W.setCell ⟨u,0,none⟩ (O Z x)).setCell ⟨u,1,none⟩ (.int .u16 k)) T n g c I N:=by
  have hst:Chg (fun p=>p=u) W ((W.setCell ⟨u,0,none⟩ (O Z x)).setCell ⟨u,1,none⟩ (.int .u16 k)):=Zk (S:=fun p=>p=u) (Zk (S:=fun p=>p=u) (Zl _ _) ⟨u,0,none⟩ (.inl rfl) _) ⟨u,1,none⟩ (.inl rfl) _;refine⟨h.own.mod hst (fun q hq e=> ?_) (fun _ _=>rfl),h.len⟩;exact Za4 (h.own.own) ha (by decide) (by rw[hq,e])
theorem Pic.mid{n t:Nat}(h:Pic W T n g c I N)(hft:f<t)(ht:t≤128*N):Seg W (Zt (some ⟨g,f,none⟩) (t-f) (c-f)) ((I.drop f).take (t-f)):=by
  have k:=h.own;have e:128*N=(ucells I).length:=by rw[Zag,h.len]
  rw[e]at k;exact k.mid hft (by rw[h.len];exact ht)
theorem Pic.get{n:Nat}(h:Pic W T n g c I N)(k:Nat)(hk:k<128*N):g<W.heap.size/\∃x:UInt8,I[k]?=some x/\W.cell? ⟨g,k,none⟩=some (.int .u8 ((x.toNat:Nat):Int)):=by
  obtain⟨a,cap,hv,h1,h2⟩:=Zxo h.own.own;simp only [Zn]at hv;obtain⟨rfl,-,rfl⟩:=hv;rcases h2 with h2|⟨b',o',e,hb,hc⟩
  · have:=h.len;rw[h2]at this;simp at this;omega
  · simp only [Zg,Addr.mk.injEq]at e
    obtain⟨rfl,rfl,-⟩:=e;have hkl:k<I.length:=by rw[h.len];exact hk
    have:=hc k hkl;rw[Nat.zero_add]at this;exact⟨hb,_,Zh hkl,this⟩
theorem ht_pic(h:Hb w0 W T A R L)(hf:Fit R.s G sz)(j:Nat)(hn:j<R.s.n)(hg:G j)(hz:sz j=N)(h0:0<N)(h1:N≤8192)(hd:R.s.dry j)(hF:∀z,z<N->R.s.sec j z=F z):
    Calls Zw 34 #[Zs (some ⟨A.b,0,none⟩),O Z j] W fun e w'=>∃g c I,e=Zu (.tuple #[Zt (some ⟨g,0,none⟩) (128*N) c,.int .u16 0])/\Pic w' T W.heap.size g c I N/\ImgOf I N F/\Below W.heap.size W w':=by
  have hi:=img_of hf hn hg hd (F:=F) (fun z hz'=>hF z (by rw[<-hz];exact hz'));rw[hz]at hi;refine(ht_image h hf j hn hg (by omega)).mono ?_;rintro e w' ⟨v,rfl,k1,k2,k3⟩;rw[hz]at k3;have hl:(ucells (imgB R.s j)).length=128*N:=by rw[Zag,k3]
  have k4:=k1.own;rw[hl]at k4;obtain⟨x,xc,rfl,-,-⟩:=Zas k4 (by omega);exact⟨x,xc,_,rfl,⟨k1,k3⟩,hi,k2⟩
end
section
variable {w0 W:World} {T:Nat->Nat} {A:Adr} {R:RS} {V:Nat->Nat->Sec} {L:List (Nat×Array Value×TypeId)} {M C S m a b:Nat}
theorem hb_twos{n:Nat}(h:Hb w0 W T A R ((n,cs,33)::L))(hw:w0.heap.size≤n)(ht:∀x∈L,x.1≠n)(h2:cs.size=2)(x:Int)(c:Nat):Hb w0 ((W.setCell ⟨n,0,none⟩ (O Z x)).setCell ⟨n,1,none⟩ (.int .u16 c)) T A R (tcBox n x c::L):=by
  obtain⟨b1,b2,-⟩:=h.box _ List.mem_cons_self;exact Hb.twos ⟨h.hn,fun y hy=>h.box y (List.mem_cons_of_mem _ hy)⟩ b1 hw b2 ht x c h2
theorem pic_alloc{n:Nat}{o:Obj}(h:Pic W T n g c I N):Pic (W.alloc o) T n g c I N:=h.below ((Zb _ _).alloc (Za _) _)
theorem pic_drew{n:Nat}(h:Pic W T n g c I N):Pic W.drew T n g c I N:=h.below (Zb _ _).drew
structure FinS (R:RS) (V:Nat->Nat->Sec) (M C S m q P a b:Nat):Prop where
  ho:HoP R V M C S m a b
  rest:Rest R m
  dry:R.s.dry m
  sec:∀z,z<1+P->R.s.sec m z=if q+1≤z/\z<q+1+C then V m (z-1)else zsec
theorem FinS.cut(h:FinS R V M C S m q P a b):Fit (R.s.cut []) (fun _=>True) R.szs/\(R.s.cut []).n=R.s.n/\(R.s.cut []).dry m/\∀z,z<1+P->(R.s.cut []).sec m z=if q+1≤z/\z<q+1+C then V m (z-1)else zsec:=by
  have hmm:=h.ho.m;have hRn:=h.ho.n;obtain⟨y,h1,h2⟩:=h.dry;have e:(R.s.cut []).pos (m*3)=R.s.pos (m*3):=by
    rw[cut_pos R.s h.rest.aside [] m (by omega),h1];show some (y.crash _)=_
    rw[crash_dry h2]
  exact⟨cut_fit h.ho.fit h.rest.aside [],cutTo_n _ _ _,⟨y,e.trans h1,h2⟩,fun z hz=>(Zcn e _).trans (h.sec z hz)⟩
theorem fin_of_healed{n:Nat}(h:HoP R V M C S m a b)(hP:S*C=P)(hr:Rest R m)(hf:∀z,¬(q+1≤z/\z<q+1+C)->R.s.sec m z=zsec)(k:Healed R V m q C s'):FinS {R with s:=s'} V M C S m q P (a+1000) (b+16):=by
  refine⟨h.healed k,⟨fun j hj e=> ?_,fun p hp=> ?_⟩,k.dry,fun z hz=> ?_⟩
  · obtain⟨y,h1,h2⟩:=hr.dry j hj e
    exact⟨y,(k.pos _ (by omega)).trans h1,h2⟩
  · exact(k.pos p (by omega)).trans (hr.aside p hp)
  · show s'.sec m z=_
    rw[k.sec z (by rw[h.S,h.C,hP];exact hz)];by_cases e:q+1≤z/\z<q+1+C
    · rw[Zf e,Zf e]
    · rw[Ze e,Ze e]
      exact hf z e
theorem fin_of_cut{n:Nat}(h:HoP R V M C S m a b)(hP:S*C=P)(hr:Rest R m)(hfr:R.s.pos (m*3)=some ⟨freshDsk n,false,0⟩)(k:Healed R V m q C t.lit)(ks:List (List Bool)):FinS {R with s:=t.cut ks} V M C S m q P (a+1000) (b+16):=by
  obtain⟨g1,g2,g3,g4⟩:=h.cutHealed hr k ks;refine⟨g1,g2,g3,fun z hz=> ?_⟩;show(t.cut ks).sec m z=_
  rw[g4,k.sec z (by rw[h.S,h.C,hP];exact hz)];by_cases e:q+1≤z/\z<q+1+C
  · rw[Zf e,Zf e]
  · rw[Ze e,Ze e]
    exact fresh_zsec hfr z
end
end
theorem healLasts_no(m c s ring:Int)(a1 a2 a3:Int)(ka:Option Addr)(kc:Nat)(ks:List (List Bool))(v:Value)(l:List (List (Int×List UInt8)))(w:World)(hv:HOpSeg w v l)(hkv:Bitzz w (fun _=>0) (Zt ka ks.length kc) ks)(ha3:a3≤9223372036854775807)(h:mayIs m c s ring=false):
    Calls Zw 7 #[geo m c s,O Z ring,O Z a1,O Z a2,O Z a3,Zt ka ks.length kc,v] w fun e w'=>e=Zu (.bool true)/\Below w.heap.size w w':=by
  have hb0:Below w.heap.size w (w.alloc (Zv #[O Z m,O Z c,O Z s] 23)):=(Zb _ _).alloc (Za _) _;have ha0:At (w.alloc (Zv #[O Z m,O Z c,O Z s] 23)) w.heap.size #[O Z m,O Z c,O Z s] 23:=At.new _ _ _;have KU:=hid (Zol m c s v l _ (hv.below hb0));have KK:Hid (∀W,Calls Zw 9 #[] W fun e w'=>e=Zu (.bool true)/\Below W.heap.size W w'):=Zl0;have KM:Hid (∀W,Calls Zw 10 #[geo m c s,O Z ring] W fun e w'=>e=Zu (.bool false)/\Below W.heap.size W w'):=fun W=>by
    have:=Zri m c s ring W;rw[h]at this;exact this
  have HB0:=hid hb0;have HA0:=hid ha0;have c0:=ha0.cell 0;have c1:=ha0.cell 1;have c2:=ha0.cell 2;have hl0:=ha0.lt;have HKB:=hid hkv;have HN3:=hid ha3;have hkl:ks.length≤9223372036854775807:=by
    obtain⟨_,_,_,q,_⟩:=hkv;exact q
  clear hkv ha3;unfold geo at*;clear hb0 ha0 h hv;go_enter Tryz.func7,Tryz.ntmps7
  go_wp2_with (first
    |(go_at_call 8;(with_reducible refine KU.out.mono ?_);rintro e w1 ⟨r,rfl,hr,hb1⟩;clear c0 c1 c2;have HB1:=hid (Zac HB0.out hb1);have HA1:=hid (HA0.out.below hb1 HA0.out.lt);clear hr hb1)
    |(go_at_call 9;(with_reducible refine(KK.out _).mono ?_);rintro e w2 ⟨rfl,hb2⟩;have HB2:=hid (Zac HB1.out hb2);have ha2:=HA1.out.below hb2 HA1.out.lt;have c0:=ha2.cell 0;have c1:=ha2.cell 1;have c2:=ha2.cell 2;have hl2:=ha2.lt;clear ha2 hb2)
    |(go_at_call 10;(with_reducible refine(KM.out _).mono ?_);rintro e w3 ⟨rfl,hb3⟩;have HB3:=hid (Zac HB2.out hb3);clear hb3))
  all_goals (first|(go_ret;exact⟨rfl,HB3.out⟩)|(go_ret;exact⟨rfl,HB1.out⟩))
theorem healLasts_go(M C S ring:Nat)(a1 a2 a3:Int)(ka:Option Addr)(kc:Nat)(ks:List (List Bool))(v:Value)(l:List (List (Int×List UInt8)))(w:World)(hv:HOpSeg w v l)(hkv:Bitzz w (fun _=>0) (Zt ka ks.length kc) ks)(ha3:a3≤9223372036854775807)(hg:geoIs M C S=true)(h5:5≤ring)(h6:ring≤2048):
    Calls Zw 7 #[geo M C S,O Z ring,O Z a1,O Z a2,O Z a3,Zt ka ks.length kc,v] w fun e w'=>e=Zu (.bool true)/\Below w.heap.size w w':=by
  have hb0:Below w.heap.size w (w.alloc (Zv #[O Z M,O Z C,O Z S] 23)):=(Zb _ _).alloc (Za _) _;have ha0:At (w.alloc (Zv #[O Z M,O Z C,O Z S] 23)) w.heap.size #[O Z M,O Z C,O Z S] 23:=At.new _ _ _;have KU:=hid (Zol M C S v l _ (hv.below hb0));have KK:Hid (∀W,Calls Zw 9 #[] W fun e w'=>e=Zu (.bool true)/\Below W.heap.size W w'):=Zl0;have KM:Hid (∀W,Calls Zw 10 #[geo M C S,O Z ring] W fun e w'=>e=Zu (.bool true)/\Below W.heap.size W w'):=fun W=>by
    have:=Zri M C S ring W;have hm:mayIs M C S ring=true:=by
      unfold mayIs;rw[hg,decide_eq_true (show(5:Int)≤ring by omega),decide_eq_true (show(ring:Int)≤2048 by omega)];rfl
    rw[hm]at this;exact this
  have KD:=hid (fun W=>Zom M C S ring false W hg h5 h6);have HPB:Hid (HcP (made0R M C S ring false) zeroV M C S ring false 10000 3000):=HcP.begun hg h5 h6;have hgb:=Zbe hg;have hgi:=(Zam M C S).1 hg;have HB0:=hid hb0;have HA0:=hid ha0;have HV:=hid hv;have c0:=ha0.cell 0;have c1:=ha0.cell 1;have c2:=ha0.cell 2;have hl0:=ha0.lt;have hlf:=hv.few;obtain⟨va,vc,rfl⟩:=hv.shape;have HKB:=hid hkv;have HN3:=hid ha3;have hkl:ks.length≤9223372036854775807:=by
    obtain⟨_,_,_,q,_⟩:=hkv;exact q
  clear hkv ha3;unfold geo at*;clear hb0 ha0 hv h5 h6 hg;go_enter Tryz.func7,Tryz.ntmps7
  go_wp2_with (first
    |(go_at_call 8;(with_reducible refine KU.out.mono ?_);rintro e w1 ⟨r,rfl,hr,hb1⟩;clear c0 c1 c2;have HMU:=hid hr;have HB1:=hid (Zac HB0.out hb1);have HA1:=hid (HA0.out.below hb1 HA0.out.lt);clear hr hb1)
    |(go_at_call 9;(with_reducible refine(KK.out _).mono ?_);rintro e w2 ⟨rfl,hb2⟩;have HB2:=hid (Zac HB1.out hb2);have ha2:=HA1.out.below hb2 HA1.out.lt;have c0:=ha2.cell 0;have c1:=ha2.cell 1;have c2:=ha2.cell 2;have hl2:=ha2.lt;have HA2:=hid ha2;clear ha2 hb2)
    |(go_at_call 10;(with_reducible refine(KM.out _).mono ?_);rintro e w3 ⟨rfl,hb3⟩;clear c0 c1 c2;have HB3:=hid (Zac HB2.out hb3);have ha3:=HA2.out.below hb3 HA2.out.lt;have c0:=ha3.cell 0;have c1:=ha3.cell 1;have c2:=ha3.cell 2;have hl3:=ha3.lt;have HA3:=hid ha3;clear ha3 hb3)
    |(go_at_call 11;(with_reducible refine(KD.out w3).mono ?_);rintro e w4 ⟨T,A,pp,cp,sp,rfl,k1,k2,k3,k4⟩;clear c0 c1 c2;have HBX:Hid (Hb w3 w4 T A (made0R M C S ring false) [pairBox pp A cp sp,gBox w.heap.size M C S]):=Zwe k1 k2 k3 HA3.out;have HVV:Hid (HOpSeg w3 (Zt va l.length vc) l):=HV.out.below HB3.out;clear k1 k2 k3 k4))
  any_goals (first|(go_ret;exact⟨rfl,HB1.out⟩)|skip)
  have HFW:Hid (FewHeal M C S l):=HMU.out (by first|assumption|(exact Bool.eq_false_iff.2 (by assumption))|(cases r<;>simp_all));have HKV:=hid (HKB.out.below HB3.out);clear KU KK KM KD HMU HA0 HA1 HA2 HV HB0 HB1 HB2 HKB;go_loopw [16] (fun q wr=>∃k:Nat,k≤l.length/\q=O Z k/\∃T R V,Hb w3 wr T A R [pairBox pp A cp sp,gBox w.heap.size M C S]/\HcP R V M C S ring false (swA k) (swB l k)) (fun q _=>l.length-(intOf q).toNat);case atStart=>exact⟨0,by omega,rfl,_,_,_,HBX.out,HPB.out.more (by unfold swA;omega) (by unfold swB;omega)⟩
  case round=>
    clear HBX HPB;obtain⟨k,hk,rfl,T,R,V,hbx,hpx⟩:=hrel;have HBX:=hid hbx;have HPX:=hid hpx;clear hbx hpx;by_cases hkl:k<l.length
    · have K1:Hid (k+1≤l.length):=hkl
      obtain⟨bb,off,rfl,hlt,hx⟩:=HVV.out.full (by omega);obtain⟨u4,x4,q4⟩:=hx k hkl;obtain⟨pa,pc,rfl⟩:=q4.shape;have hbw:=HBX.out.hn.bel;have hlt':bb<wr.heap.size:=Zd hlt hbw.size;have HQ4:=hid q4;have hin:=Zre HFW.out hk;have HIN:Hid (Within (swA k) (swB l k)):=⟨by have:=hin.a;omega,by have:=hin.b;omega⟩;have HNX:Hid (∀R V,HcP R V M C S ring false (swA k+1000000) (swB l k+8*(l[k]'hkl).length+4)->HcP R V M C S ring false (swA (k+1)) (swB l (k+1))):=fun R V h=>h.more (by rw[Zug];omega) (by rw[Zu6 hkl];omega)
      have HSS:Hid (∀W T R,Hb w3 W T A R [pairBox pp A cp sp,gBox w.heap.size M C S]->W.cell? ⟨pp,2,none⟩=some (Zs (some ⟨A.q,0,none⟩))/\W.cell? ⟨bb,off+k*5+4,none⟩=some (.slice pa (l[k]'hkl).length pc)):=fun W T R h=>⟨(h.get 0 rfl).cell 2,(h.hn.bel.cell (p:=⟨bb,off+k*5+4,none⟩) hlt).trans x4⟩
      clear x4 q4 hx hbw hin;generalize (l[k]'hkl)=us at*;go_wp2;go_region_held3 (fun W=>W.cell? ⟨pp,2,none⟩=some (Zs (some ⟨A.q,0,none⟩))/\W.cell? ⟨bb,off+k*5+4,none⟩=some (Zt pa us.length pc))
        (first|exact HSS.out _ _ _ HBX.out|exact HSS.out _ _ _ (Zbt HBX.out)|exact HSS.out _ _ _ HB9.out)
        (first|(go_at_call 12;(with_reducible refine(Zut (Zbt HBX.out) HPX.out HIN.out _ us HQ4.out).mono ?_);rintro e w9 ⟨⟨cd,rfl⟩,T9,R9,V9,hb9,hp9⟩;have HB9:=hid hb9;have HP9:=hid hp9;clear hb9 hp9))
      go_wp2;exact⟨⟨k+1,K1.out,by go_num,_,_,_,HB9.out,HNX.out _ _ HP9.out⟩,by simp[intOf];have:=K1.out;omega⟩
    · obtain rfl:k=l.length:=by omega
      have hin:=Zre HFW.out (Za l.length);have HIB:Hid (Within (swA l.length+200000000000) (swB l l.length+100000)):=hin;clear hin;have tm:∀(a:Int) (n:Nat),0<n-> -(n:Int)<Int.tmod a n/\Int.tmod a n<n/\((Int.tmod a n).natAbs<n):=fun a n hn=>by
        have h1:=Int.natAbs_tmod a n;have h2:a.natAbs%n<n:=Nat.mod_lt _ hn;have h3:(Int.tmod a n).natAbs<n:=by rw[h1,Int.natAbs_natCast];exact h2
        omega
      obtain⟨r1a,r1b,hm0⟩:=tm a1 M (by omega);obtain⟨r2a,r2b,hk0⟩:=tm a2 S (by omega);have hmx:∀z:Int,((z.natAbs:Nat):Int)=if z< -z then -z else z:=fun z=>by split<;>omega
      have hmx1:=hid (hmx (Int.tmod a1 M));have hmx2:=hid (hmx (Int.tmod a2 S));clear tm hmx;have m0a:¬M=0:=by omega
      have m0b:¬S=0:=by omega
      have m0c:¬(M:Int)=0:=by omega
      have m0d:¬(S:Int)=0:=by omega
      have HK0:Hid ((Int.tmod a2 S).natAbs<S):=hk0;have HM0:Hid ((Int.tmod a1 M).natAbs<M):=hm0;clear hm0 hk0;generalize hem:(Int.tmod a1 M).natAbs=m0 at*;generalize hek:(Int.tmod a2 S).natAbs=k0 at*;clear hem hek;generalize swB l l.length=sb at*;generalize swA l.length=sa at*;obtain⟨P,hP⟩:∃P,S*C=P:=⟨_,rfl⟩;have hP4:P≤4096:=by rw[<-hP];exact(Zbe HPX.out.geoM).2.2.2
      have HPP:Hid (S*C=P):=hP;have HRW:Hid (∀W,Calls Zw 24 #[.agg #[O Z M,O Z C,O Z S]] W fun e w'=>e=Zu (O Z (P:Int))/\Below W.heap.size W w'):=Zyi HPX.out.geoM hP;clear hP;have HS:Hid (∀X T R L,Hb w3 X T A R L->pairBox pp A cp sp∈L/\gBox w.heap.size M C S∈L->X.cell? ⟨pp,0,none⟩=some (Zs (some ⟨A.b,0,none⟩))/\X.cell? ⟨pp,2,none⟩=some (Zs (some ⟨A.q,0,none⟩))/\X.cell? ⟨w.heap.size,0,none⟩=some (O Z M)/\X.cell? ⟨w.heap.size,1,none⟩=some (O Z C)/\X.cell? ⟨w.heap.size,2,none⟩=some (O Z S)):=fun X T R L h hm=>⟨((h.box _ hm.1).1).cell 0,((h.box _ hm.1).1).cell 2,((h.box _ hm.2).1).cell 0,((h.box _ hm.2).1).cell 1,((h.box _ hm.2).1).cell 2⟩
      have HM4:Hid (pairBox pp A cp sp∈ [pairBox pp A cp sp,gBox w.heap.size M C S]/\gBox w.heap.size M C S∈ [pairBox pp A cp sp,gBox w.heap.size M C S]):=⟨by simp,by simp⟩;have HM5:Hid (∀n x c,pairBox pp A cp sp∈(tcBox n x c:: [pairBox pp A cp sp,gBox w.heap.size M C S])/\gBox w.heap.size M C S∈(tcBox n x c:: [pairBox pp A cp sp,gBox w.heap.size M C S])):=fun n x c=>⟨by simp,by simp⟩
      have p2:=(HS.out _ _ _ _ HBX.out HM4.out).2.1;go_upto_region 16 with (go_at_call 23;(with_reducible refine(hc_empty HBX.out HPX.out ⟨by have:=HIB.out.a;omega,by have:=HIB.out.b;omega⟩).mono ?_);rintro e w6 ⟨rfl,T6,R6,hb6,hp6,hw6,hc6⟩;clear p2;have HB6:=hid hb6;have HP6:=hid hp6;have HW6:=hid hw6;have HC6:=hid hc6;have c0:=(hb6.get 1 rfl).cell 0;have c1:=(hb6.get 1 rfl).cell 1;have c2:=(hb6.get 1 rfl).cell 2;have hlw:=(hb6.get 1 rfl).lt;clear hb6 hp6 hw6 hc6)
      go_quiet (fail);have HBD:Hid (Hb w3 (w6.drewN nq) T6 A R6 [pairBox pp A cp sp,gBox w.heap.size M C S]):=HB6.out.below (below_drewN (Zb _ _) _);clear HBX HPX HB6 c0 c1 c2 hlw;generalize w6.drewN nq=wd at*;have HPIC:Hid (Calls Zw 34 #[Zs (some ⟨A.b,0,none⟩),O Z m0] wd fun e w'=>∃g c I,e=Zu (.tuple #[Zt (some ⟨g,0,none⟩) (128*(1+P)) c,.int .u16 0])/\Pic w' T6 wd.heap.size g c I (1+P)/\ImgOf I (1+P) (fun z=>R6.s.sec m0 z)/\Below wd.heap.size wd w'):=by
        have hp:=HP6.out;obtain⟨x,x1,x2,x3⟩:=HC6.out m0 (by rw[hp.M];exact HM0.out) (by unfold RS.dn;rw[hp.up];simp);exact ht_pic HBD.out (hp.good.allUp hp.up) m0 (by rw[hp.good.n,hp.M];have:=HM0.out;omega) trivial (by unfold RS.szs;rw[Zf (by rw[hp.M];exact HM0.out),hp.S,hp.C,HPP.out]) (by omega) (by omega) ⟨x,x1,x2⟩ (fun z _=>rfl)
      have p0:wd.cell? ⟨pp,0,none⟩=some (Zs (some ⟨A.b,0,none⟩)):=(HS.out _ _ _ _ HBD.out HM4.out).1
      go_upto_region 20 with (first
        |(first|(refine Zi5 rfl _ _ 3 rfl _ _ (m0:Int) rfl rfl hmx1.out ?_)|(refine Zi5 rfl _ _ 3 rfl _ _ (k0:Int) rfl rfl hmx2.out ?_))
        |(go_at_call 34;(with_reducible refine HPIC.out.mono ?_);rintro e wi ⟨g1,gc1,I1,rfl,hpic,him,hb⟩;clear p0;have HI1:=hid hpic;have HIM1:=hid him;have HBI:=hid (HBD.out.below hb);have p0:=(HS.out _ _ _ _ (HBD.out.below hb) HM4.out).1;clear hpic him hb)
        |(go_at_call 30;(with_reducible refine(ht_fail HBI.out HP6.out (by have:=HIB.out.b;omega) HM0.out).mono ?_);rintro e w7 ⟨rfl,hb7,hs7⟩;clear p0;have HB7:=hid hb7;have HI7:=hid (HI1.out.step hs7 HBD.out.has);clear hb7 hs7))
      have HAS:Hid (∀q,A.has q->q<wd.heap.size):=HBD.out.has;clear HPIC;go_region_held3 (fun X=>X.cell? ⟨pp,0,none⟩=some (.pointer (some ⟨A.b,0,none⟩))/\X.cell? ⟨pp,2,none⟩=some (.pointer (some ⟨A.q,0,none⟩))/\X.cell? ⟨w.heap.size,0,none⟩=some (.int .i64 M)/\X.cell? ⟨w.heap.size,1,none⟩=some (.int .i64 C)/\X.cell? ⟨w.heap.size,2,none⟩=some (.int .i64 S))
        (first
          |exact HS.out _ _ _ _ HB7.out HM4.out
          |exact HS.out _ _ _ _ (Zbt HB7.out) HM4.out
          |exact HS.out _ _ _ _ HBR.out HM4.out
          |exact HS.out _ _ _ _ (Zbt HBR.out) HM4.out
          |exact HS.out _ _ _ _ HB8.out HM4.out)
        (first
          |(go_at_call 24;(with_reducible refine(HRW.out _).mono ?_);rintro e wq ⟨rfl,hbq⟩;(refine Zw5 (P:=Hb w3 wq T6 A {R6 with s:=R6.s.lose m0} [pairBox pp A cp sp,gBox w.heap.size M C S]/\Pic wq T6 wd.heap.size g1 gc1 I1 (1+P)) ?_ ?_);(focus (refine⟨Zow ?_ hbq,Pic.below ?_ hbq⟩;(focus (first|with_reducible exact HB7.out|with_reducible exact Zbt HB7.out));(focus (first|with_reducible exact HI7.out|with_reducible exact HI7.out.below (Zb _ _).drew))));intro hbr;have HBR:=hid hbr.1;have HIR:=hid hbr.2;clear hbr hbq)
          |(go_at_call 31;(with_reducible refine(ht_swap HBR.out HP6.out HM0.out HPP.out (by unfold IntKind.wrap;simp[IntKind.signed,IntKind.bits];omega)).mono ?_);rintro e w8 ⟨rfl,T8,hb8,hs8⟩;have HB8:=hid hb8;have HI8:=hid (HIR.out.step hs8 HAS.out);clear hb8 hs8))
      have hwr:IntKind.i64.wrap (1+(P:Int))=1+(P:Int):=by unfold IntKind.wrap;simp[IntKind.signed,IntKind.bits];omega
      rw[hwr];clear hwr;have HP9:Hid (HoP (R6.anew m0) V M C S m0 (sa+1000) (sb+1)):=HoP.anew HP6.out HW6.out HM0.out;have HR9:Hid (Rest (R6.anew m0) m0):=Rest.anew HP6.out HC6.out m0;have HF9:Hid ((R6.anew m0).s.pos (m0*3)=some ⟨freshDsk (1+R6.S*R6.C),false,0⟩):=Zf rfl;have HSV:Hid (∀z,1≤z->z<1+P->R6.s.sec m0 z=V m0 (z-1)):=fun z h1 h2=>by
        have hp:=HP6.out;have:=hp.good.sec m0 (z-1) (by rw[hp.M];exact HM0.out) (by rw[hp.S,hp.C,HPP.out];omega) (by rw[HW6.out];rfl) (by unfold RS.dn;rw[hp.up];simp);rw[show 1+(z-1)=z by omega]at this;exact this
      obtain⟨R9,hR9⟩:∃R9,R9=R6.anew m0:=⟨_,rfl⟩;rw[<-hR9]at HP9 HR9 HF9;have HEQ:Hid (R6.anew m0=R9):=hR9.symm;clear hR9;have p2:=(HS.out _ _ _ _ HB8.out HM4.out).2.1
      go_upto_region 23 with (first
        |(go_at_call 13;(with_reducible refine(ht_mark HB8.out HP6.out HM0.out).mono ?_);rintro e w9 ⟨rfl,hb9,hs9⟩;clear p2;rw[HEQ.out]at hb9;have HB9:=hid hb9;have HI9:=hid (HI8.out.step hs9 HAS.out);have p0:=(HS.out _ _ _ _ hb9 HM4.out).1;clear hb9 hs9)
        |(go_at_call 38;(with_reducible refine(n_trip HB9.out HP9.out a3 HN3.out).mono ?_);rintro e wt ⟨ct,s1,rfl,hbt,hst,hlt,hvt⟩;clear p0;have HBT:=hid hbt;have HIT:=hid (HI9.out.step hst HAS.out);have HLT:=hid hlt;have HVT:=hid hvt;clear hbt hst hlt hvt))
      have HIN:Hid (Within (sa+1000) (sb+1)):=⟨by have:=HIB.out.a;omega,by have:=HIB.out.b;omega⟩;generalize 1+R6.S*R6.C=N6 at*;clear HB7 HBI HBR HB8 HB9 HI1 HI7 HIR HI8 HI9 HRW HBD HP6 HW6 HC6 HEQ;generalize wd.heap.size=nd at*;have HZT:Hid (w3.heap.size≤wt.heap.size):=HBT.out.hn.bel.size;have HL4:Hid (∀bx∈ [pairBox pp A cp sp,gBox w.heap.size M C S],bx.1≠wt.heap.size):=fun bx hx=>Nat.ne_of_lt (HBT.out.box bx hx).1.lt
      go_cut [21]from 121 to 132 (fun s21 wx=>∃ub T sl c s2,s21=Zs (some ⟨ub,0,none⟩)/\Hb w3 wx T A {R9 with s:=s2} (tcBox ub sl c:: [pairBox pp A cp sp,gBox w.heap.size M C S])/\Pic wx T nd g1 gc1 I1 (1+P)/\(w3.heap.size≤ub/\∀bx∈ [pairBox pp A cp sp,gBox w.heap.size M C S],bx.1≠ub)/\(c=0/\sl=0/\Healed R9 V m0 (k0*C) C s2.lit\/c=50/\Torn {R9 with s:=s1} V m0 (k0*C) C (freshDsk N6).last s2));case first=>
        go_region_held3 (fun X=>X.cell? ⟨pp,0,none⟩=some (Zs (some ⟨A.b,0,none⟩))/\X.cell? ⟨pp,2,none⟩=some (Zs (some ⟨A.q,0,none⟩))/\X.cell? ⟨w.heap.size,0,none⟩=some (O Z M)/\X.cell? ⟨w.heap.size,1,none⟩=some (O Z C)/\X.cell? ⟨w.heap.size,2,none⟩=some (O Z S))
          (first
            |(refine HS.out _ T8 {R9 with s:=s1} [pairBox pp A cp sp,gBox w.heap.size M C S] ?_ HM4.out;(focus ((repeat (first|with_reducible exact HBT.out|with_reducible refine Zbc ?_|with_reducible refine Zbt ?_));done)))
            |exact HS.out _ _ _ _ HBB.out HM4.out
            |exact HS.out _ _ _ _ HBB.out (HM5.out _ _ _)
            |exact HS.out _ _ _ _ HBB.out HM6.out
            |exact HS.out _ _ _ _ (Zbc HBB.out) HM4.out
            |exact HS.out _ _ _ _ HFIN.out (HM5.out _ _ _))
          (first
            |(go_at_call 15;(with_reducible refine Calls.mono (ht_step (w0:=w3) (T:=T8) (A:=A) (R:=R9) (V:=V) (s1:=s1) (n:=N6) (L:=trBox wt.heap.size:: [pairBox pp A cp sp,gBox w.heap.size M C S]) ?_ HP9.out HIN.out HLT.out HVT.out HF9.out k0 HK0.out) ?_);(focus ((repeat (first|with_reducible exact HBT.out|(with_reducible refine Zds ?_ ?_;(focus (first|with_reducible rfl|(simp only [Zaa];done))))|with_reducible refine Zbc ?_|with_reducible refine Zbt ?_));done));rintro e wb ⟨sl,cd,Tb,s2,rfl,hb,hst,hor⟩;(refine Zw5 (P:=Pic wb Tb nd g1 gc1 I1 (1+P)) ?_ ?_);(focus (refine Pic.step (n:=nd) (g:=g1) (c:=gc1) (I:=I1) (N:=1+P) ?_ hst HAS.out;(repeat (first|with_reducible exact HIT.out|with_reducible refine pic_alloc ?_|with_reducible refine pic_drew ?_));done));intro hpi;have hx:=hb.get 0 rfl;have HM6:Hid (pairBox pp A cp sp∈(trBox wt.heap.size:: [pairBox pp A cp sp,gBox w.heap.size M C S])/\gBox w.heap.size M C S∈(trBox wt.heap.size:: [pairBox pp A cp sp,gBox w.heap.size M C S])):=⟨by simp,by simp⟩;have c0:=hx.cell 0;have c1:=hx.cell 1;have f0:=hx.free 0;have f1:=hx.free 1;have HFIN:=hid (hb_twos hb HZT.out HL4.out rfl sl cd);have HPF:=hid (hpi.twos hx sl cd);have HUB:Hid (w3.heap.size≤wt.heap.size/\∀bx∈ [pairBox pp A cp sp,gBox w.heap.size M C S],bx.1≠wt.heap.size):=⟨HZT.out,HL4.out⟩;have HBB:=hid hb;have HOR:=hid hor;clear hb hor hx hpi hst)
            |(go_at_call 15;(with_reducible refine Calls.mono (ht_step (w0:=w3) (T:=T8) (A:=A) (R:=R9) (V:=V) (s1:=s1) (n:=N6) (L:= [pairBox pp A cp sp,gBox w.heap.size M C S]) ?_ HP9.out HIN.out HLT.out HVT.out HF9.out k0 HK0.out) ?_);(focus ((repeat (first|with_reducible exact HBT.out|with_reducible refine Zbc ?_|with_reducible refine Zbt ?_));done));rintro e wb ⟨sl,cd,Tb,s2,rfl,hb,hst,hor⟩;(refine Zw5 (P:=Pic wb Tb nd g1 gc1 I1 (1+P)) ?_ ?_);(focus (refine Pic.step (n:=nd) (g:=g1) (c:=gc1) (I:=I1) (N:=1+P) ?_ hst HAS.out;(repeat (first|with_reducible exact HIT.out|with_reducible refine pic_alloc ?_|with_reducible refine pic_drew ?_));done));intro hpi;have HFIN:=hid (hb.push #[O Z sl,.int .u16 cd] 33 (by decide) (by decide) (by decide) (by decide));have HPF:=hid (pic_alloc (o:=.cells #[O Z sl,.int .u16 cd] 33) hpi);have HUB:Hid (w3.heap.size≤wb.heap.size/\∀bx∈ [pairBox pp A cp sp,gBox w.heap.size M C S],bx.1≠wb.heap.size):=⟨hb.hn.bel.size,fun bx hx=>Nat.ne_of_lt (hb.box bx hx).1.lt⟩;have HBB:=hid hb;have HOR:=hid hor;clear hb hor hpi hst))
        all_goals go_wp2_with fail
        all_goals go_meet
        all_goals exact⟨_,_,sl,cd,s2,rfl,HFIN.out,HPF.out,HUB.out,HOR.out⟩
      case rest=>
        obtain⟨ub,T2,sl,cd,s2,rfl,hb2,hi2,hu2,hor⟩:=hcut;have HB2:=hid hb2;have HI2:=hid hi2;have HU2:=hid hu2;have HOR:=hid hor;have HSM:Hid (s2.small 1000000/\∀q,q%3≠0->s2.pos q=none):=by
          have h9:=HP9.out.bud.small' (show sb+1≤900000 by have:=HIB.out.b;omega);rcases hor with ⟨-,-,k⟩|⟨-,k⟩
          · exact⟨fun i hi x hx=>Zc (k.small _ h9 i hi x hx) (by omega),fun q hq=>(k.pos q (by omega)).trans (HR9.out.aside q hq)⟩
          · have hl9:s1.lit.pos=R9.s.pos:=by rw[HLT.out]
            have hn9:s1.lit.n=R9.s.n:=by rw[HLT.out]
            have h8:s1.small 900000:=fun i hi x hx=>h9 i (by rw[<-hn9];exact hi) x (by rw[<-hl9];exact hx)
            have hp9:s1.pos=R9.s.pos:=hl9;exact⟨fun i hi x hx=>Zc (k.small _ h8 i hi x hx) (by omega),fun q hq=>(k.pos q (by omega)).trans (by show s1.pos q=none;rw[hp9];exact HR9.out.aside q hq)⟩
        have p0:=(HS.out _ _ _ _ hb2 (HM5.out _ _ _)).1;clear hb2 hi2 hu2 hor;go_upto_if 141 with (go_at_call 37;(with_reducible refine(n_cut HB2.out HKV.out HSM.out.1 HSM.out.2).mono ?_);rintro e w4x ⟨rfl,hb4,hs4⟩;clear p0;have HB4:=hid hb4;have HI4:=hid (HI2.out.step hs4 HAS.out);have t0:=(hb4.get 0 rfl).cell 0;have t1:=(hb4.get 0 rfl).cell 1;clear hb4 hs4)
        obtain⟨q,hq⟩:∃q,k0*C=q:=⟨_,rfl⟩;rw[hq]at HOR;have hgo:=HP9.out.good.geo;have hpq:(k0+1)*C≤S*C:=Nat.mul_le_mul_right C HK0.out;have hpq2:(k0+1)*C=q+C:=by rw[Nat.add_mul,Nat.one_mul,hq]
        have HQ:Hid (q+C≤P/\k0*C=q):=⟨by have:=HPP.out;omega,hq⟩;clear hgo hpq hpq2 hq;have HI4N:Hid (Within (sa+2000) (sb+17)):=⟨by have:=HIB.out.a;omega,by have:=HIB.out.b;omega⟩;go_cut []from 142 to 153 (fun wx=>∃T s4,Hb w3 wx T A {R9 with s:=s4} (trBox ub:: [pairBox pp A cp sp,gBox w.heap.size M C S])/\Pic wx T nd g1 gc1 I1 (1+P)/\FinS {R9 with s:=s4} V M C S m0 q P (sa+3000) (sb+33));case first=>
          rcases HOR.out with ⟨rfl,rfl,hh⟩|⟨rfl,hto⟩
          · have HFI:=hid (fin_of_cut HP9.out HPP.out HR9.out HF9.out hh ks)
            clear hh HOR;go_wp2_with fail;go_meet;exact⟨_,_,HB4.out,HI4.out,⟨HFI.out.ho.mono (by omega) (by omega),HFI.out.rest,HFI.out.dry,HFI.out.sec⟩⟩
          · obtain⟨g1',g2',g3'⟩:=HoP.cutTorn (R1:={R9 with s:=s1}) HP9.out HR9.out HLT.out rfl hto ks
            have HG1:=hid g1';have HG2:=hid g2';have HG3:=hid g3';clear g1' g2' g3' hto HOR;have f0:=(HB4.out.get 0 rfl).free 0;have f1:=(HB4.out.get 0 rfl).free 1;go_upto_region 26 with fail
            go_region_held3 (fun X=>X.cell? ⟨pp,0,none⟩=some (Zs (some ⟨A.b,0,none⟩))/\X.cell? ⟨pp,2,none⟩=some (Zs (some ⟨A.q,0,none⟩))/\X.cell? ⟨w.heap.size,0,none⟩=some (O Z M)/\X.cell? ⟨w.heap.size,1,none⟩=some (O Z C)/\X.cell? ⟨w.heap.size,2,none⟩=some (O Z S))
              (first
                |exact HS.out _ _ _ _ HB4.out (HM5.out _ _ _)
                |exact HS.out _ _ _ _ (Zbt HB4.out) (HM5.out _ _ _)
                |exact HS.out _ _ _ _ HB5.out (HM5.out _ _ _)
                |exact HS.out _ _ _ _ HB6.out (HM5.out _ _ _))
              (first
                |(go_at_call 15;(with_reducible refine(hh_step (Zbt HB4.out) HG1.out HI4N.out k0 HK0.out).mono ?_);rintro e w5 ⟨rfl,T5,s5,hb5,hs5,hh5⟩;clear t0 t1 f0 f1;have hx:=hb5.get 0 rfl;have t0:=hx.cell 0;have t1:=hx.cell 1;have f0:=hx.free 0;have f1:=hx.free 1;have HB5:=hid hb5;have HI5:=hid ((pic_drew HI4.out).step hs5 HAS.out);have HH5:=hid hh5;have HB6:=hid (hb_twos hb5 HU2.out.1 HU2.out.2 rfl 0 0);have HI6:=hid (((pic_drew HI4.out).step hs5 HAS.out).twos hx 0 0);clear hb5 hs5 hh5 hx))
            have HFI:Hid (FinS {R9 with s:=s5} V M C S m0 q P (sa+3000) (sb+33)):=by
              have hh5:=HH5.out;rw[HQ.out.2]at hh5;have:=fin_of_healed (n:=0) HG1.out HPP.out HG2.out HG3.out hh5;exact⟨this.ho.mono (by omega) (by omega),this.rest,this.dry,this.sec⟩
            go_wp2_with fail;go_meet;exact⟨_,_,HB6.out,HI6.out,HFI.out⟩
        case rest=>
          obtain⟨T4,s4,hb4,hi4,hfin⟩:=hcut;have HB7:=hid hb4;have HI7:=hid hi4;obtain⟨hf5,hn5,hd5,hse5⟩:=hfin.cut;have HF5:=hid hf5;have HN5:=hid hn5;have HD5:=hid hd5;have HE5:=hid hse5;have HO5:=hid hfin.ho;have HM6:Hid (pairBox pp A cp sp∈(trBox ub:: [pairBox pp A cp sp,gBox w.heap.size M C S])/\gBox w.heap.size M C S∈(trBox ub:: [pairBox pp A cp sp,gBox w.heap.size M C S])):=⟨by simp,by simp⟩;have p0:=(HS.out _ _ _ _ hb4 HM6.out).1;have HNIL:Hid (Bitzz w3 (fun _=>0) (Zt none 0 0) []):=⟨none,0,rfl,by simp,.inl rfl⟩;have HSM4:Hid (s4.small 1000000/\∀q,q%3≠0->s4.pos q=none):=⟨fun i hi x hx=>Zc (hfin.ho.bud.small' (show sb+33≤900000 by have:=HIB.out.b;omega) i hi x hx) (by omega),hfin.rest.aside⟩;clear hb4 hi4 hf5 hn5 hd5 hse5 hfin t0 t1 HB2 HI2 HOR HB4 HI4 HSM
          go_upto_region 29 with (first
            |(go_at_call 37;(with_reducible refine(n_cut HB7.out HNIL.out HSM4.out.1 HSM4.out.2).mono ?_);rintro e w8x ⟨rfl,hb8,hs8⟩;clear p0;have HB8:=hid hb8;have HI8:=hid (HI7.out.step hs8 HAS.out);have p0:=(HS.out _ _ _ _ hb8 HM6.out).1;clear hb8 hs8)
            |(go_at_call 34;(with_reducible refine(ht_pic (N:=1+P) (F:=fun z=>if q+1≤z/\z<q+1+C then V m0 (z-1)else zsec) HB8.out HF5.out m0 (by have h1:=HO5.out.n;have h2:=HN5.out;have h3:=HM0.out;show m0<(s4.cut []).n;have h4:({R9 with s:=s4}:RS).s.n=s4.n:=rfl;have h5:({R9 with s:=s4}:RS).s.cut []=s4.cut []:=rfl;rw[h5]at h2;omega) trivial (by have h1:=HO5.out.M;have h2:=HO5.out.S;have h3:=HO5.out.C;unfold RS.szs;rw[Zf (by rw[h1];exact HM0.out),h2,h3,HPP.out]) (by omega) (by omega) HD5.out HE5.out).mono ?_);rintro e w9x ⟨g2,gc2,I2,rfl,hpic,him,hb⟩;clear p0;have HJ:=hid hpic;have HIM2:=hid him;have HB9:=hid (HB8.out.below hb);have HI9:=hid (HI8.out.below hb);have hx:=HB8.out.below hb;have c0:=(hx.get 2 rfl).cell 0;have c1:=(hx.get 2 rfl).cell 1;have c2:=(hx.get 2 rfl).cell 2;have hlg:=(hx.get 2 rfl).lt;have t0:=(hx.get 0 rfl).cell 0;have t1:=(hx.get 0 rfl).cell 1;have htl:=(hx.get 0 rfl).lt;clear hpic him hb hx))
          obtain⟨q2,hq2⟩:∃q2,q2=q+C:=⟨_,rfl⟩;have hqc:(k0:Int)*(C:Int)=(q:Int):=by rw[<-HQ.out.2,Int.natCast_mul]
          have hqd:((k0:Int)+1)*(C:Int)=(q2:Int):=by rw[Int.add_mul,hqc,hq2,Int.one_mul,Int.natCast_add]
          have hqp:=HQ.out.1;obtain⟨fr,hfr⟩:∃fr,fr=128*(1+q):=⟨_,rfl⟩;obtain⟨tt,htt⟩:∃tt,tt=128*(1+q2):=⟨_,rfl⟩;have hf1:(128:Int)*(1+(q:Int))=(fr:Int):=by omega
          have hf2:(128:Int)*(1+(q2:Int))=(tt:Int):=by omega
          have hw1:IntKind.i64.wrap (q:Int)=q:=by unfold IntKind.wrap;simp[IntKind.signed,IntKind.bits];omega
          have hw2:IntKind.i64.wrap (1+(q:Int))=1+(q:Int):=by unfold IntKind.wrap;simp[IntKind.signed,IntKind.bits];omega
          have hw3:IntKind.i64.wrap (fr:Int)=fr:=by unfold IntKind.wrap;simp[IntKind.signed,IntKind.bits];omega
          have hw4:IntKind.i64.wrap ((k0:Int)+1)=(k0:Int)+1:=by have:=HK0.out;unfold IntKind.wrap;simp[IntKind.signed,IntKind.bits];omega
          have hw5:IntKind.i64.wrap (q2:Int)=q2:=by unfold IntKind.wrap;simp[IntKind.signed,IntKind.bits];omega
          have hw6:IntKind.i64.wrap (1+(q2:Int))=1+(q2:Int):=by unfold IntKind.wrap;simp[IntKind.signed,IntKind.bits];omega
          have hw7:IntKind.i64.wrap (tt:Int)=tt:=by unfold IntKind.wrap;simp[IntKind.signed,IntKind.bits];omega
          have HFT:Hid (fr=128*(1+q)/\tt=128*(1+q2)/\q2=q+C):=⟨hfr,htt,hq2⟩;clear hfr htt hq2;go_quiet (fail);obtain⟨wz,hwz⟩:∃wz,wz=w9x.drewN nq:=⟨_,rfl⟩;rw[<-hwz];have hbz:Below w9x.heap.size w9x wz:=by rw[hwz];exact below_drewN (Zb _ _) _
          have hbx:=HB9.out.below hbz;have HBZ:=hid hbx;have HP1:=hid (HI9.out.below hbz);have HP2:=hid (HJ.out.below hbz);clear t0 t1 htl c0 c1 c2 hlg hwz;have t0:=(hbx.get 0 rfl).cell 0;have t1:=(hbx.get 0 rfl).cell 1;have htl:=(hbx.get 0 rfl).lt;have hcap:128*(1+P)≤gc1/\128*(1+P)≤gc2:=by
            have f:∀{g c:Nat} {n:Nat} {I:List UInt8},Pic wz T4 n g c I (1+P)->128*(1+P)≤c:=fun {g c n I} h=>by
              obtain⟨a,cap,hv,h1,-⟩:=Zxo h.own.own;simp only [Zn]at hv;obtain⟨-,-,rfl⟩:=hv;rw[<-h.len];exact h1.2
            exact⟨f HP1.out,f HP2.out⟩
          have HSEG:Hid (∀X,Below wz.heap.size wz X->Calls Zw 28 #[Zt (some ⟨g1,fr,none⟩) (tt-fr) (gc1-fr),Zt (some ⟨g2,fr,none⟩) (tt-fr) (gc2-fr)] X fun e w'=>e=Zu (.bool true)/\Below X.heap.size X w'):=fun X hX=>by
            have e1:=HFT.out.1;have e2:=HFT.out.2.1;have e3:=HFT.out.2.2;have hC:1≤C:=by omega
            have hm1:=(HP1.out.below hX).mid (f:=fr) (t:=tt) (by omega) (by omega);have hm2:=(HP2.out.below hX).mid (f:=fr) (t:=tt) (by omega) (by omega);have e4:(I1.drop fr).take (tt-fr)=(I2.drop fr).take (tt-fr):=by
              rw[e1,e2];refine img_mid HIM1.out HIM2.out (by omega) (by omega) fun z h1 h2=> ?_
              rw[HSV.out z (by omega) (by omega),Zf (by omega)]
            rw[e4]at hm1;refine Zyk ?_ hm1 hm2;rw[List.length_take,List.length_drop,HP2.out.len];omega
          have HZER:Hid (∀k X,k<128*(1+P)->¬(fr≤k/\k<tt)->Below wz.heap.size wz X->X.cell? ⟨g2,k,none⟩=some (.int .u8 0)/\g2<X.heap.size):=fun k X hk hn hX=>by
            obtain⟨k1,x,k2,k3⟩:=(HP2.out.below hX).get k hk;have k4:=img_zero (f:=1+q) (t:=1+q2) HIM2.out (fun z hz=>Ze (by have:=HFT.out.2.2;omega)) k hk (by have e1:=HFT.out.1;have e2:=HFT.out.2.1;omega);rw[k4]at k2;obtain rfl:=Option.some.inj k2;exact⟨k3,k1⟩
          have HBE:Hid (∀X,Below wz.heap.size wz X->Below w.heap.size w X):=fun X hX=>HB3.out.trans (((HBZ.out.below hX).hn.bel).mono HB3.out.size)
          have htP:tt≤128*(1+P):=by have:=HFT.out;omega
          have hft:fr<tt:=by have:=HFT.out;omega
          have hLP:128*(1+P)≤1000000:=by omega
          clear hbx hbz HB9 HI9 HJ HB8 HI8 HB7 HI7 hqc hqd hqp hf1 hf2 hw1 hw2 hw3 hw4 hw5 hw6 hw7 HFT HQ;generalize 128*(1+P)=LN at*;obtain⟨hc1,hc2⟩:=hcap;have i1:(0:Int)≤(fr:Int):=by omega
          have i2:(fr:Int)≤(tt:Int):=by omega
          have i3:(tt:Int)≤(LN:Int):=by omega
          have i4:(tt:Int)≤(gc1:Int):=by omega
          have i5:(tt:Int)≤(gc2:Int):=by omega
          have i6:¬(LN:Int)<(tt:Int):=by omega
          have i7:(0:Int)≤(tt:Int):=by omega
          have i8:¬gc1=fr:=by omega
          have i9:¬gc2=fr:=by omega
          go_upto_region 30 with fail
          go_region_held3 (fun X=>X.cell? ⟨ub,0,none⟩=some (O Z 0)/\X.cell? ⟨ub,1,none⟩=some (.int .u16 0))
            (first
              |exact⟨((HBZ.out).get 0 rfl).cell 0,((HBZ.out).get 0 rfl).cell 1⟩
              |exact⟨((Zbt HBZ.out).get 0 rfl).cell 0,((Zbt HBZ.out).get 0 rfl).cell 1⟩
              |exact⟨((HBZ.out.below HBY.out).get 0 rfl).cell 0,((HBZ.out.below HBY.out).get 0 rfl).cell 1⟩)
            (first
              |(go_at_call 28;(with_reducible refine(HSEG.out _ (Zb _ _).drew).mono ?_);rintro e wy ⟨rfl,hby⟩;have HBY:Hid (Below wz.heap.size wz wy):=Zac (Zb _ _).drew hby;clear hby))
          go_wp2_with fail;clear hc1 hc2 i3 i4 i5 i6 i8 i9 t0 t1 htl HSEG;go_loopw [26] (fun q wi=>∃k:Nat,k≤LN/\q=O Z k/\Below wz.heap.size wz wi) (fun q _=>LN-(intOf q).toNat);case atStart=>exact⟨0,by omega,rfl,HBY.out⟩
          case round=>
            obtain⟨k,hk,rfl,hbk⟩:=hrel;have HBK:=hid hbk;clear hbk;by_cases hkl:k<LN
            · have K1:Hid (k+1≤LN):=hkl
              by_cases h1:k<fr
              · have hi1:(k:Int)<(fr:Int):=by omega
                obtain⟨d1,d2⟩:=HZER.out k wr hkl (by omega) HBK.out;go_wp2_with fail;exact⟨⟨k+1,K1.out,by go_num,HBK.out⟩,by simp[intOf];have:=K1.out;omega⟩
              · have hi1:¬(k:Int)<(fr:Int):=by omega
                by_cases h2:tt≤k
                · have hi2:(tt:Int)≤(k:Int):=by omega
                  obtain⟨d1,d2⟩:=HZER.out k wr hkl (by omega) HBK.out;go_wp2_with fail;exact⟨⟨k+1,K1.out,by go_num,HBK.out⟩,by simp[intOf];have:=K1.out;omega⟩
                · have hi2:¬(tt:Int)≤(k:Int):=by omega
                  go_wp2_with fail;exact⟨⟨k+1,K1.out,by go_num,HBK.out⟩,by simp[intOf];have:=K1.out;omega⟩
            · obtain rfl:k=LN:=by omega
              go_wp2_with fail;go_ret;exact⟨rfl,HBE.out _ HBK.out⟩
section
open Go.RowKit Go.ChangeShapes Go.WideShapes Go.ChangeAt Go.Deep
theorem healLasts_walk(w:World)(enc:TypeId×Value->H)(base:Nat)(v:Value)(d:DataW H)(ps:List MemPlace)(hok:Value.okWide Zw w .any base 23 v)(h:DataW.Trod enc Zw w 0 (fun _=>true) true 23 v d ps)
    (ring:Int) (_:(Lit.int .i64 ring).wf=true) (a1:Int) (_:(Lit.int .i64 a1).wf=true) (a2:Int) (_:(Lit.int .i64 a2).wf=true) (a3:Int) (h3:(Lit.int .i64 a3).wf=true)
    (encK:TypeId×Value->H) (baseK:Nat) (kv:Value) (dK:DataW H) (psK:List MemPlace) (hokK:Value.okWide Zw w .any baseK 89 kv) (hK:DataW.Trod encK Zw w 0 (fun _=>true) true 89 kv dK psK)
    (enc':TypeId×Value->H) (base':Nat) (v':Value) (d':DataW H) (ps':List MemPlace) (hok':Value.okWide Zw w .any base' 24 v') (h':DataW.Trod enc' Zw w 0 (fun _=>true) true 24 v' d' ps') (hw':∀n∈d'.weights Zw 24,n≤reachBytes):
    Calls Zw 7 #[v,O Z ring,O Z a1,O Z a2,O Z a3,kv,v'] w fun e w'=>e=Zu (.bool true)/\Below w.heap.size w w':=by
  obtain⟨m,c,s,rfl⟩:=Zns hok h;obtain⟨l,hv⟩:=Zly hok' h' hw';obtain⟨ks,hks⟩:=bitss_of_trod (T:=89) (E:=158) (Q:=4) (by kernel_rfl) (by kernel_rfl) (by kernel_rfl) (by kernel_rfl) (by kernel_rfl) hokK hK;have ha3:a3≤9223372036854775807:=by
    have:=h3;simp[Lit.wf,IntKind.min,IntKind.max,IntKind.signed,IntKind.bits]at this;omega
  obtain⟨ka,kc,e0,-⟩:=id hks;subst e0;cases hm:mayIs m c s ring
  · exact healLasts_no m c s ring a1 a2 a3 ka kc ks v' l w hv hks ha3 hm
  · obtain⟨M,C,S,r,rfl,rfl,rfl,rfl,hg,h5,h6⟩:=Zvz hm
    exact healLasts_go M C S r a1 a2 a3 ka kc ks v' l w hv hks ha3 hg h5 h6
end
end Go.Proofs.YtljjjpakcbcioaaGreat

