/- Several texts in one: Hl3, Hl4. -/
import Derived.Test.YtljjjpakcbcioaaGreatHl1
import Derived.Test.YtljjjpakcbcioaaGreatHl2
import Derived.Deep.CutRange
import Derived.Deep.CutBlock
import Derived.Deep.RegionHeld3
set_option linter.unusedVariables false
set_option maxRecDepth 100000
set_option maxHeartbeats 32000000
namespace Go.Proofs.YtljjjpakcbcioaaGreat
open Go.RowKit
structure Hn (w0 W:World) (T:Nat->Nat) (A:Adr) (R:RS):Prop where
 rw:∃lg vw X,RwIn W T A R lg vw X
 old:∀q,q<w0.heap.size->T q=0/\¬A.has q
 bel:Below w0.heap.size w0 W
section
variable {w0 W W':World} {T T':Nat->Nat} {A:Adr} {R R':RS} {V:Nat->Nat->Sec}
theorem LAt.hn (h:LAt w0 W T A R V):Hn w0 W T A R:=⟨h.rw,h.old,h.bel⟩
theorem Hn.lat (h:Hn w0 W T A R) (g:Good R V) (i:R.lazy=true\/R.wait= []):LAt w0 W T A R V:=⟨h.rw,g,i,h.old,h.bel⟩
theorem Hn.below (h:Hn w0 W T A R) (hb:Below W.heap.size W W'):Hn w0 W' T A R:=by
 obtain⟨lg,vw,X,hr⟩:=h.rw;exact⟨⟨lg,vw,X,hr.below hb⟩,h.old,h.bel.trans (hb.mono h.bel.size)⟩
theorem Hn.next (h:Hn w0 W T A R) (s:Stp W T A W' T'):(∀q,q<w0.heap.size->T' q=0/\¬A.has q)/\Below w0.heap.size w0 W':=by
 have hs:=h.bel.size;refine⟨fun q hq=>⟨(s.tags q (by omega)).trans (h.old q hq).1,(h.old q hq).2⟩,h.bel.trans (s.chg.below fun q hq=>⟨by omega,fun e=>e.elim (fun e=>e (h.old q hq).1) (h.old q hq).2⟩)⟩
theorem Hn.keep (h:Hn w0 W T A R) (s:Stp W T A W' T') {g:Nat} {cs:Array Value} {t:TypeId} (ha:At W g cs t) (ht:T g=0) (h1:101≠t) (h2:3≠t) (h3:133≠t) (h4:203≠t):At W' g cs t/\T' g=0:=by
 obtain⟨lg,vw,X,hr⟩:=h.rw;exact⟨ha.mod s.chg fun e=>e.elim (fun e=>e ht) (hr.offAt ha h1 h2 h3 h4),(s.tags g ha.lt).trans ht⟩
theorem Hn.virg (h:Hn w0 W T A R) (q:Nat) (hq:W.heap.size≤q):T q=0:=by
 obtain⟨lg,vw,X,hr⟩:=h.rw;exact Zae hr.bay q hq
theorem Hn.turn (h:Hn w0 W T A R) {s':BaySt} (hp:BayPost W T A.b s' W'):∃T',Hn w0 W' T' A {R with s:=s'}/\Stp W T A W' T':=by
 obtain⟨lg,vw,X,hr⟩:=h.rw;obtain⟨T',k1,k2,k3⟩:=hp;have hst:Stp W T A W' T':=⟨k2,k3.mono fun q e=>.inl e⟩;obtain⟨k4,k5⟩:=h.next hst;exact⟨T',⟨⟨lg,vw,X,hr.turn k1 k2 k3⟩,k4,k5⟩,hst⟩
theorem Zw6 (h:Hn w0 W T A R) (m:Nat) (hm:m<R.s.n) (x:Dev) (hx:R.s.pos (m*3)=some x) (hsm:R.s.small 1000000):
  Calls Tryz.prog 30 #[.pointer (some ⟨A.b,0,none⟩),.int .i64 m] W fun e w'=>e=.returned (.int .u16 0)/\Hn w0 w' T A {R with s:=R.s.lose m}/\Stp W T A w' T:=by
 obtain⟨lg,vw,X,hr⟩:=h.rw;obtain⟨gs,ptr,tg,dp,hin⟩:=hr.bay;refine(Zkg hin m hm x hx (hsm (m*3) (by omega) x hx)).mono ?_;rintro e w' ⟨rfl,h1,h2⟩;have h1':BayAt w' T A.b (R.s.lose m):=by
  rw[<-Zsb hx];exact⟨gs,ptr,tg,dp,h1⟩
 have hst:Stp W T A w' T:=⟨fun _ _=>rfl,h2.mono fun q e=>.inl e⟩;obtain⟨k4,k5⟩:=h.next hst;exact⟨rfl,⟨⟨lg,vw,X,hr.turn h1' (fun _ _=>rfl) h2⟩,k4,k5⟩,hst⟩
theorem Zw3 (h:Hn w0 W T A R) (m n:Nat) (hm:m<R.s.n) {x:Dev} (hx:R.s.pos (m*3)=some x) (hf:x.d.failed=true) (h2:R.s.pos (m*3+2)=none) (hn:0<n) (hn2:n≤8192):
  Calls Tryz.prog 31 #[.pointer (some ⟨A.b,0,none⟩),.int .i64 m,.int .i64 n] W fun e w'=>e=.returned (.int .u16 0)/\∃T',Hn w0 w' T' A {R with s:=R.s.laid (m*3) ⟨freshDsk n,false,0⟩}/\Stp W T A w' T':=by
 obtain⟨lg,vw,X,hr⟩:=h.rw;refine(Zt3 hr.bay m n hm hx hf h2 hn hn2).mono ?_;rintro e w' ⟨rfl,hp⟩;obtain⟨T',k1,k2⟩:=h.turn hp;exact⟨rfl,T',k1,k2⟩
theorem Zvf (h:Hn w0 W T A R) (m:Nat) (dn:Bool) (hm:m<R.M):
  Calls Tryz.prog 13 #[.pointer (some ⟨A.q,0,none⟩),.int .i64 m,.bool dn,.int .i64 0] W fun e w'=>e=.returned (.tuple #[])/\Hn w0 w' T A (R.marked m dn)/\Stp W T A w' T:=by
 obtain⟨lg,vw,X,hr⟩:=h.rw;refine(Zs9 hr m dn hm).mono ?_;rintro e w' ⟨rfl,h1,h2⟩;have hst:Stp W T A w' T:=⟨fun _ _=>rfl,h2.mono fun q e=>.inr e⟩;obtain⟨k4,k5⟩:=h.next hst;exact⟨rfl,⟨⟨lg,vw,X,h1⟩,k4,k5⟩,hst⟩
theorem Zg1 (h:Hn w0 W T A R) {x y z:Int} (h0:R.s.cnt 0=x) (h1:R.s.cnt 1=y) (h2:R.s.cnt 2=z):
  Calls Tryz.prog 14 #[.pointer (some ⟨A.b,0,none⟩)] W fun e w'=>e=.returned (.agg #[.int .i64 x,.int .i64 y,.int .i64 z])/\Below W.heap.size W w':=by
 obtain⟨lg,vw,X,hr⟩:=h.rw;have:=Zp2 hr.bay;unfold cntVal at this;rw[h0,h1,h2]at this;exact this
theorem Zvb (h:LAt w0 W T A R V) (hw:R.wait= []) (m s:Nat) (hm:m<R.M) (hs:s<R.S) (hd:∀k,k<R.C->R.dn m (s*R.C+k)=true) (hf:Fit R.s (fun j=>R.G j\/j=m) R.szs) (hc0:R.s.cnt 0≤990000000000) (hc1:R.s.cnt 1≤990000000000) (hc2:R.s.cnt 2≤990000000000) (hsm:R.s.small 900000):
  Calls Tryz.prog 15 #[.pointer (some ⟨A.b,0,none⟩),.agg #[.int .i64 R.M,.int .i64 R.C,.int .i64 R.S],.pointer (some ⟨A.q,0,none⟩),.int .i64 m,.int .i64 s] W fun e w'=>e=.returned (.agg #[.int .i64 0,.int .u16 0])/\∃T' s',LAt w0 w' T' A {R with s:=s'} V/\Stp W T A w' T'/\Healed R V m (s*R.C) R.C s':=by
 obtain⟨lg,vw,X,hr⟩:=h.rw;refine(Ztc hr h.good hw m s hm hs hd hf hc0 hc1 hc2 hsm).mono ?_;rintro e w' ⟨rfl,T',s',k1,k2,k3,k4⟩;have hst:Stp W T A w' T':=⟨k3,k4.mono fun q e=>.inl e⟩;obtain⟨k5,k6⟩:=h.next hst;exact⟨rfl,T',s',⟨⟨lg,vw,X,k1⟩,k2.good h.good hd,h.idle,k5,k6⟩,hst,k2⟩
end
theorem Zrq {n:Nat} (hn:0<n):CalmDev ⟨freshDsk n,false,0⟩ n:=by
 refine⟨rfl,rfl,by simp[freshDsk],fun s hs=> ?_,fun y hy=>(by cases hy),fun y hy=>(by cases hy)⟩;have:s∈List.replicate n zsec:=hs;rw[List.mem_replicate]at this;rw[this.2];simp[zsec]
theorem Zs4 (s:BaySt) (m:Nat) (y:Dev):(s.lose m).laid (m*3) y=s.laid (m*3) y:=by
 unfold BaySt.lose BaySt.laid;congr 1;funext q;by_cases e:q=m*3
 ·rw[if_pos e,if_pos e]
 ·rw[if_neg e,if_neg e]
  exact if_neg e
abbrev RS.anew (R:RS) (m:Nat):RS:={R.marked m true with s:=R.s.laid (m*3) ⟨freshDsk (1+R.S*R.C),false,0⟩}
theorem Good.allUp {R:RS} {V:Nat->Nat->Sec} (h:Good R V) (hf:R.fr=fun _=> -1):Fit R.s (fun _=>True) R.szs:=by
 have hd:∀m r,R.dn m r=false:=fun m r=>by unfold RS.dn;rw[hf];simp
 refine⟨h.fit.dark,h.fit.trip,fun j hj _=>h.fit.dev j hj ?_⟩;have:=(Zbe h.geo).2.2.1;have hn:=h.n;by_cases e:j=R.M
 ·exact .inl e
 ·exact .inr ⟨by omega,0,this,hd j 0⟩
theorem Good.anew {R:RS} {V:Nat->Nat->Sec} (h:Good R V) (hf:R.fr=fun _=> -1) {m:Nat} (hm:m<R.M):Good (R.anew m) V/\Fit (R.anew m).s (fun _=>True) (R.anew m).szs/\(∀r,(R.anew m).dn m r=true):=by
 have ha:=h.allUp hf;have hdn:∀j r,(R.marked m true).dn j r=decide (j=m):=fun j r=>by
  unfold RS.dn RS.marked;rw[hf];by_cases e:j=m
  ·simp[e]
  ·simp[e]
 have hfit:Fit (R.s.laid (m*3) ⟨freshDsk (1+R.S*R.C),false,0⟩) (fun _=>True) R.szs:=ha.laid m (by
  have:R.szs m=1+R.S*R.C:=by unfold RS.szs;rw[if_pos hm]
  rw[this]
  exact Zrq (by omega))
 refine⟨(h.mark hf m).aside rfl (hfit.sub fun _ _=>trivial) fun j r hj hr hd=> ?_,hfit,fun r=>(hdn m r).trans (by simp)⟩;rw[hdn j r,decide_eq_false_iff_not]at hd;exact Zcn (if_neg (by omega)) _
theorem Zrc {s:BaySt} {G:Nat->Prop} {sz:Nat->Nat} (hf:Fit s G sz) {m:Nat} (hm:m<s.n) (hg:G m) (hd:s.dry m):∃L:List Sec,s.image (m:Int)=(0,some L)/\L.length=sz m/\(∀x∈L,x.length=128)/\∀z,z<sz m->L[z]?=some (s.sec m z):=by
 obtain⟨x,h1,h2⟩:=hd;obtain⟨y,e1,h3⟩:=hf.dev m hm hg;have hxy:y=x:=Option.some.inj (e1.symm.trans h1);subst hxy;refine⟨y.d.last,?_,h3.len,h3.secs,fun z hz=> ?_⟩
 ·rw[Zpl hm h1,if_neg (by rw[h3.failed];simp)]
 ·rw[Zdt h1]
  unfold Dsk.cur;rw[h2];have hl:z<y.d.last.length:=by rw[h3.len];exact hz
  show _=some (y.d.last.getD z zsec)
  rw[List.getElem?_eq_getElem hl,List.getD_eq_getElem?_getD,List.getElem?_eq_getElem hl];rfl
theorem Zvg {w0 W:World} {T:Nat->Nat} {A:Adr} {R:RS} (h:Hn w0 W T A R) (m:Nat) {L:List Sec} (hL:R.s.image (m:Int)=(0,some L)):
  Calls Tryz.prog 34 #[.pointer (some ⟨A.b,0,none⟩),.int .i64 m] W fun e w'=>∃v,e=.returned (.tuple #[v,.int .u16 0])/\Below W.heap.size W w'/\w'.ownsRow W.heap.size 5 1 v (128*L.length) (ucells L.flatten):=by
 obtain⟨lg,vw,X,hr⟩:=h.rw;have:=Ztg hr.bay (m:Int);rw[hL]at this;refine this.mono ?_;rintro e w' ⟨v,rfl,h1,h2,-⟩;obtain⟨-,k⟩:=h2 L rfl;rw[Zci,Nat.mul_comm]at k;exact⟨v,rfl,h1,k⟩
open Go.RowKit
structure Hb (w0 W:World) (T:Nat->Nat) (A:Adr) (R:RS) (L:List (Nat×Array Value×TypeId)):Prop where
 hn:Hn w0 W T A R
 box:∀x∈L,At W x.1 x.2.1 x.2.2/\T x.1=0/\101≠x.2.2/\3≠x.2.2/\133≠x.2.2/\203≠x.2.2
section
variable {w0 W W':World} {T T':Nat->Nat} {A:Adr} {R R':RS} {V:Nat->Nat->Sec} {L:List (Nat×Array Value×TypeId)}
theorem Hb.below (h:Hb w0 W T A R L) (hb:Below W.heap.size W W'):Hb w0 W' T A R L:=
 ⟨h.hn.below hb,fun x hx=>⟨(h.box x hx).1.below hb (h.box x hx).1.lt,(h.box x hx).2⟩⟩
theorem Hb.step (h:Hb w0 W T A R L) (k:Hn w0 W' T' A R') (s:Stp W T A W' T'):Hb w0 W' T' A R' L:=
 ⟨k,fun x hx=>by
  obtain⟨h1,h2,h3,h4,h5,h6⟩:=h.box x hx
  obtain⟨k1,k2⟩:=h.hn.keep s h1 h2 h3 h4 h5 h6
  exact⟨k1,k2,h3,h4,h5,h6⟩⟩
theorem Hb.push (h:Hb w0 W T A R L) (cs:Array Value) (t:TypeId) (h1:101≠t) (h2:3≠t) (h3:133≠t) (h4:203≠t):Hb w0 (W.alloc (.cells cs t)) T A R ((W.heap.size,cs,t)::L):=by
 have hb:=h.below ((Below.refl W.heap.size W).alloc (Nat.le_refl _) (.cells cs t));refine⟨hb.hn,fun x hx=> ?_⟩;rcases List.mem_cons.1 hx with e|e
 ·subst e
  exact⟨At.new _ _ _,h.hn.virg _ (Nat.le_refl _),h1,h2,h3,h4⟩
 ·exact hb.box x e
theorem Hb.get (h:Hb w0 W T A R L) (i:Nat) {g:Nat} {cs:Array Value} {t:TypeId} (hi:L[i]?=some (g,cs,t)):At W g cs t:=(h.box _ (List.mem_of_getElem? hi)).1
theorem Hb.lat (h:Hb w0 W T A R L) (g:Good R V) (i:R.lazy=true\/R.wait= []):LAt w0 W T A R V:=h.hn.lat g i
theorem Zow (h:Hb w0 W T A R L) (hb:Below W.heap.size W W'):Hb w0 W' T A R L:=h.below hb
theorem Zbc {o:Obj} (h:Hb w0 W T A R L):Hb w0 (W.alloc o) T A R L:=h.below ((Below.refl _ _).alloc (Nat.le_refl _) _)
theorem Zbt (h:Hb w0 W T A R L):Hb w0 W.drew T A R L:=h.below (Below.refl _ _).drew
theorem Zds {n:Nat} (hs:n=W.heap.size) (h:Hb w0 W T A R L):Hb w0 (W.alloc (.cells #[.int .i64 0,.int .u16 0] 33)) T A R ((n,#[.int .i64 0,.int .u16 0],33)::L):=by
 subst hs;exact h.push _ _ (by decide) (by decide) (by decide) (by decide)
theorem Zks {X:World} {g:Nat} {cs:Array Value} {t:TypeId} (h:g=X.heap.size):At (X.alloc (.cells cs t)) g cs t:=by rw[h];exact At.new _ _ _
theorem Zcc {X:World} {o:Obj} {g:Nat} {cs:Array Value} {t:TypeId} (h:At X g cs t):At (X.alloc o) g cs t:=h.alloc o
theorem Hb.zeros {n:Nat} (h:Hb w0 W T A R ((n,#[.int .i64 0,.int .u16 0],33)::L)) (hw:w0.heap.size≤n) (ht:∀x∈L,x.1≠n):Hb w0 ((W.setCell ⟨n,0,none⟩ (.int .i64 0)).setCell ⟨n,1,none⟩ (.int .u16 0)) T A R ((n,#[.int .i64 0,.int .u16 0],33)::L):=by
 obtain⟨b1,b2,b3⟩:=h.box _ List.mem_cons_self;have hst:Chg (fun p=>p=n) W ((W.setCell ⟨n,0,none⟩ (.int .i64 0)).setCell ⟨n,1,none⟩ (.int .u16 0)):=Chg.setCell (S:=fun p=>p=n) (Chg.setCell (S:=fun p=>p=n) (Chg.refl _ _) ⟨n,0,none⟩ (.inl rfl) _) ⟨n,1,none⟩ (.inl rfl) _;obtain⟨lg,vw,X,hr⟩:=h.hn.rw;refine⟨⟨⟨lg,vw,X,hr.box b1 b2 hst⟩,h.hn.old,h.hn.bel.trans (hst.below fun q hq=>⟨Nat.lt_of_lt_of_le hq h.hn.bel.size,fun e=>by omega⟩)⟩,fun x hx=> ?_⟩;rcases List.mem_cons.1 hx with e|e
 ·subst e
  exact⟨(b1.set 0 (.int .i64 0)).set 1 (.int .u16 0),b2,b3⟩
 ·obtain⟨k1,k2⟩:=h.box x hx
  exact⟨k1.mod hst (ht x e),k2⟩
end
section
variable {w0 W:World} {T:Nat->Nat} {A:Adr} {R:RS} {V:Nat->Nat->Sec} {L:List (Nat×Array Value×TypeId)}
theorem Zw7 {R:RS} (hk:KnownRes R):1+R.S*R.C=3:=by rw[hk.S,hk.C]
theorem Zu4 {R:RS} (hk:KnownRes R):R.s.small 1000000:=fun i hi x hx=>Nat.le_trans (hk.small i hi x hx) (by omega)
theorem Zvq (h:Hb w0 W T A (R.marked 0 true) L) (hk:KnownRes R) (hg:Good R V):
  Calls Tryz.prog 30 #[.pointer (some ⟨A.b,0,none⟩),.int .i64 0] W fun e w'=>e=.returned (.int .u16 0)/\Hb w0 w' T A {R.marked 0 true with s:=R.s.lose 0} L:=by
 have hn:0<R.s.n:=by rw[hg.n];omega
 obtain⟨x,hx,-⟩:=(hg.allUp hk.fr).dev 0 hn trivial;have hsm:=Zu4 hk;refine(Zw6 (R:=R.marked 0 true) h.hn 0 hn x hx hsm).mono ?_;rintro e w' ⟨rfl,k1,k2⟩;exact⟨rfl,h.step k1 k2⟩
theorem Zws (h:Hb w0 W T A {R.marked 0 true with s:=R.s.lose 0} L) (hk:KnownRes R) (hg:Good R V) (ha:∀q,q%3≠0->R.s.pos q=none):
  Calls Tryz.prog 31 #[.pointer (some ⟨A.b,0,none⟩),.int .i64 0,.int .i64 3] W fun e w'=>e=.returned (.int .u16 0)/\∃T',Hb w0 w' T' A (R.anew 0) L:=by
 have hn:0<R.s.n:=by rw[hg.n];omega
 obtain⟨x,hx,-⟩:=(hg.allUp hk.fr).dev 0 hn trivial;have hx':(R.s.lose 0).pos (0*3)=some ⟨⟨x.d.last,[],true⟩,x.worn,x.left⟩:=by
  unfold BaySt.lose;show(if 0*3=0*3 then (R.s.pos (0*3)).map (fun x=>(⟨⟨x.d.last,[],true⟩,x.worn,x.left⟩:Dev))else R.s.pos (0*3))=_
  rw[if_pos rfl,hx];rfl
 have h2:(R.s.lose 0).pos (0*3+2)=none:=by
  show(if 0*3+2=0*3 then (R.s.pos (0*3+2)).map (fun x=>(⟨⟨x.d.last,[],true⟩,x.worn,x.left⟩:Dev))else R.s.pos (0*3+2))=_
  rw[if_neg (by omega)];exact ha _ (by omega)
 have hl:=Zw7 hk;have k:=Zw3 (R:={R.marked 0 true with s:=R.s.lose 0}) h.hn 0 (1+R.S*R.C) hn hx' rfl h2 (by omega) (by omega);have e3:((1+R.S*R.C:Nat):Int)=3:=by rw[hl];rfl
 rw[e3]at k;refine k.mono ?_;rintro e w' ⟨rfl,T',k1,k2⟩;have e:({({R.marked 0 true with s:=R.s.lose 0}:RS)with s:=({R.marked 0 true with s:=R.s.lose 0}:RS).s.laid (0*3) ⟨freshDsk (1+R.S*R.C),false,0⟩}:RS)=R.anew 0:=by
  show({R.marked 0 true with s:=(R.s.lose 0).laid (0*3) ⟨freshDsk (1+R.S*R.C),false,0⟩}:RS)=_
  rw[Zs4]
 rw[e]at k1;exact⟨rfl,T',h.step k1 k2⟩
theorem Zso (h:Hb w0 W T A (R.anew 0) L) (hk:KnownRes R) (hg:Good R V):
  Calls Tryz.prog 15 #[.pointer (some ⟨A.b,0,none⟩),.agg #[.int .i64 3,.int .i64 1,.int .i64 2],.pointer (some ⟨A.q,0,none⟩),.int .i64 0,.int .i64 0] W fun e w'=>e=.returned (.agg #[.int .i64 0,.int .u16 0])/\∃T' s',Hb w0 w' T' A {R.anew 0 with s:=s'} L/\Healed (R.anew 0) V 0 0 1 s':=by
 obtain⟨g1,g2,g3⟩:=hg.anew hk.fr (m:=0) (by rw[hk.M];omega);have hM:(R.anew 0).M=3:=hk.M;have hC:(R.anew 0).C=1:=hk.C;have hS:(R.anew 0).S=2:=hk.S
 have k:=Zvb (h.lat g1 (.inr hk.wait)) hk.wait 0 0 (by rw[hM];omega) (by rw[hS];omega) (fun k _=>g3 _) (g2.sub fun _ _=>trivial) (by show R.s.cnt 0≤_;rw[hk.c0];omega) (by show R.s.cnt 1≤_;rw[hk.c1];omega) (by show R.s.cnt 2≤_;rw[hk.c2];omega) (fun i hi x hx=>by
  change (if i=0*3 then some _ else R.s.pos i)=some x at hx
  by_cases e:i=0*3
  ·rw[if_pos e]at hx
   simp only [Option.some.injEq]at hx
   subst hx
   exact Nat.zero_le _
  ·rw[if_neg e]at hx
   exact Nat.le_trans (hk.small i hi x hx) (by omega))
 have e0:(.agg #[.int .i64 (R.anew 0).M,.int .i64 (R.anew 0).C,.int .i64 (R.anew 0).S]:Value)=.agg #[.int .i64 3,.int .i64 1,.int .i64 2]:=by
  rw[hM,hC,hS];rfl
 rw[e0]at k;refine k.mono ?_;rintro e w' ⟨rfl,T',s',k1,k2,k3⟩;rw[hC]at k3;exact⟨rfl,T',s',h.step k1.hn k2,k3⟩
theorem Zuw {s':BaySt} (h:Hb w0 W T A {R.anew 0 with s:=s'} L) (hs:Healed (R.anew 0) V 0 0 1 s') (hk:KnownRes R) (hg:Good R V) (hb:blkOf 3 1 V 0=knownS):
  Calls Tryz.prog 34 #[.pointer (some ⟨A.b,0,none⟩),.int .i64 0] W fun e w'=>∃g cap,e=.returned (.tuple #[.slice (some ⟨g,0,none⟩) 384 cap,.int .u16 0])/\Below W.heap.size W w'/\w'.cell? ⟨g,135,none⟩=some (.int .u8 5)/\g<w'.heap.size:=by
 have hM:(R.anew 0).M=3:=hk.M;have hC:(R.anew 0).C=1:=hk.C;have hS:(R.anew 0).S=2:=hk.S;have hz:(R.anew 0).szs 0=3:=by
  unfold RS.szs;rw[hM,hC,hS];rfl
 obtain⟨Li,h1,h2,h3,h4⟩:=Zrc hs.fit (m:=0) (by rw[hs.n];show 0<R.s.n;rw[hg.n];omega) (.inr rfl) hs.dry;rw[hz]at h2 h4;have hv:Li[1]?=some knownS:=by
  rw[h4 1 (by omega),hs.sec 1 (by rw[hC,hS];omega),if_pos (by omega),<-hb];rfl
 refine(Zvg h.hn 0 h1).mono ?_;rintro e w' ⟨v,rfl,k1,k2⟩;rw[h2]at k2;obtain⟨g,cap,rfl,-,hlt⟩:=Zas k2 (by omega);refine⟨g,cap,rfl,k1,?_,hlt⟩;have hb1:=Zqs h3 (i:=1) (j:=7) (by omega) (by omega);have hb2:Li[1]'(by omega)=knownS:=by
  have:=hv;rw[List.getElem?_eq_getElem (by omega)]at this;exact Option.some.inj this
 rw[hb2]at hb1;have hb3:(ucells Li.flatten)[135]?=some (.int .u8 5):=by
  unfold ucells;rw[List.getElem?_map,show(135:Nat)=128*1+7 by omega,hb1];rfl
 have:=k2.cells (g:=g) rfl 135 _ hb3;rw[Go.WideShapes.add_plain,Nat.zero_add]at this;exact this
end
structure KnR (R:RS) (V:Nat->Nat->Sec):Prop where
 res:KnownRes R
 good:Good R V
 aside:∀q,q%3≠0->R.s.pos q=none
 blk:blkOf 3 1 V 0=knownS
abbrev knR0:RS:=made0R 3 1 2 10 false
theorem Zgx {w0 W:World} {T:Nat->Nat} {A:Adr} {L:List (Nat×Array Value×TypeId)} (h:Hb w0 W T A knR0 L) {g p:Nat} (hp:At W p #[.int .i64 0,.slice (some ⟨g,0,none⟩) 128 128] 53) (hgb:At W g (ucells knownS).toArray 5):
  Calls Tryz.prog 12 #[.pointer (some ⟨A.q,0,none⟩),.slice (some ⟨p,0,none⟩) 1 1] W fun e w'=>e=.returned (.agg #[.int .i64 0,.int .u16 0])/\∃T' R V,Hb w0 w' T' A R L/\KnR R V:=by
 have hmade:=Zey (M:=3) (C:=1) (S:=2) (ring:=10) (by omega) (by omega) (by omega);have hgood:Good knR0 zeroV:=Zfb (by decide) (by omega) (by omega) hmade;have hh:=h.lat hgood (.inr rfl);have hasd:=hmade.aside;have heq:knR0=kR (formed (rBay 3 (2*1) 10) 3 10 1):=rfl;rw[heq]at h hh;generalize formed (rBay 3 (2*1) 10) 3 10 1=s0 at*;obtain⟨lg,vw,X,hr⟩:=hh.rw;have hpW:∀W',Chg (fun q=>q=A.q) W W'->PutSeg W' (.slice (some ⟨p,0,none⟩) 1 1) (kU knownS):=fun W' hc=>Zuh (hp.mod hc (Zaw hp hr.rw (by decide))) (hgb.mod hc (Zaw hgb hr.rw (by decide))) Zb6
 have hfit:2*mostIn (kR s0).M ((kR s0).S*(kR s0).C) (tabAll (kR s0).M (kR s0).C (kU knownS))+1≤(kR s0).size:=by
  have:=Zu9 knownS;show 2*mostIn 3 (2*1) (tabAll 3 1 (kU knownS))+1≤10
  rw[this];omega
 refine(Zjv hr hh.good _ (kU knownS) hpW (Zgz knownS Zb6) (by simp[kU]) hfit (by show 1≤1000000000000;omega) ?_ ?_ ?_ ?_).mono ?_
 ·show s0.cnt 0≤_;rw[hmade.c0];omega
 ·show s0.cnt 1≤_;rw[hmade.c1];omega
 ·show s0.cnt 2≤_;rw[hmade.c2];omega
 ·exact hmade.small.mono (by omega)
 ·rintro e w' ⟨rfl,ps,R1,R4,R',sec,lg',vw',X',hbt,T',k1,k2,k3⟩
  have hst:Stp W T A w' T':=⟨k2,k3⟩;obtain⟨k4,k5⟩:=hh.next hst;have hres:=hbt.res hh.good (Zgz knownS Zb6) (by simp[kU]) hfit (by show 1≤1000000000000;omega);exact⟨rfl,T',R',_,h.step ⟨⟨lg',vw',X',k1⟩,k4,k5⟩ hst,Zsd hmade Zb6 hbt,hres.good,fun q hq=>(hres.base.aside q hq).trans (hasd q hq),Zph zeroV s0 hh.good⟩
theorem Zvp {w0 W:World} {T:Nat->Nat} {A:Adr} {R:RS} {L:List (Nat×Array Value×TypeId)} (h:Hb w0 W T A R L) (hk:KnownRes R):
  Calls Tryz.prog 13 #[.pointer (some ⟨A.q,0,none⟩),.int .i64 0,.bool true,.int .i64 0] W fun e w'=>e=.returned (.tuple #[])/\Hb w0 w' T A (R.marked 0 true) L:=by
 refine(Zvf h.hn 0 true (by rw[hk.M];omega)).mono ?_;rintro e w' ⟨rfl,k1,k2⟩;exact⟨rfl,h.step k1 k2⟩
theorem Zqy {w0 W:World} {T:Nat->Nat} {A:Adr} {R:RS} {L:List (Nat×Array Value×TypeId)} (h:Hb w0 W T A (R.anew 0) L) (hk:KnownRes R):
  Calls Tryz.prog 14 #[.pointer (some ⟨A.b,0,none⟩)] W fun e w'=>e=.returned (.agg #[.int .i64 1,.int .i64 18,.int .i64 3])/\Below W.heap.size W w':=
 Zg1 h.hn hk.c0 hk.c1 hk.c2
theorem Zqa {w0 W:World} {T:Nat->Nat} {A:Adr} {R:RS} {V:Nat->Nat->Sec} {L:List (Nat×Array Value×TypeId)} {s':BaySt} (h:Hb w0 W T A {R.anew 0 with s:=s'} L) (hs:Healed (R.anew 0) V 0 0 1 s') (hk:KnownRes R):
  Calls Tryz.prog 14 #[.pointer (some ⟨A.b,0,none⟩)] W fun e w'=>e=.returned (.agg #[.int .i64 3,.int .i64 19,.int .i64 4])/\Below W.heap.size W w':=by
 have hM:(R.anew 0).M=3:=hk.M;have e0:(R.anew 0).s.cnt 0=1:=hk.c0;have e1:(R.anew 0).s.cnt 1=18:=hk.c1;have e2:(R.anew 0).s.cnt 2=3:=hk.c2;exact Zg1 h.hn (by show s'.cnt 0=3;rw[hs.c0,e0,hM];rfl) (by show s'.cnt 1=19;rw[hs.c1,e1];rfl) (by show s'.cnt 2=4;rw[hs.c2,e2];rfl)
open Go.RowKit
theorem Zw5 {P Q:Prop} (h:P) (k:P->Q):Q:=k h
abbrev geoBox (g:Nat):Nat×Array Value×TypeId:=(g,#[.int .i64 3,.int .i64 1,.int .i64 2],23)
abbrev trBox (g:Nat):Nat×Array Value×TypeId:=(g,#[.int .i64 0,.int .u16 0],33)
abbrev cntBox (g:Nat) (x y z:Int):Nat×Array Value×TypeId:=(g,#[.int .i64 x,.int .i64 y,.int .i64 z],46)
abbrev pairBox (g:Nat) (A:Adr) (cp sp:Nat):Nat×Array Value×TypeId:=(g,pairCells A cp sp,39)
theorem Zl0 (W:World):Calls Tryz.prog 9 #[] W fun e w'=>e=.returned (.bool true)/\Below W.heap.size W w':=by
 have hg:geoIs ((3:Nat):Int) ((1:Nat):Int) ((2:Nat):Int)=true:=by decide
 have hb1:Below W.heap.size W (W.alloc (.cells #[.int .i64 3,.int .i64 1,.int .i64 2] 23)):=(Below.refl _ _).alloc (Nat.le_refl _) _;have ha1:At (W.alloc (.cells #[.int .i64 3,.int .i64 1,.int .i64 2] 23)) W.heap.size #[.int .i64 3,.int .i64 1,.int .i64 2] 23:=At.new _ _ _;have HMA:Hid (Calls Tryz.prog 11 #[.agg #[.int .i64 3,.int .i64 1,.int .i64 2],.int .i64 10,.bool false] (W.alloc (.cells #[.int .i64 3,.int .i64 1,.int .i64 2] 23)) fun e w'=>∃T A pp cp sp,e=.returned (.pointer (some ⟨pp,0,none⟩))/\Hb (W.alloc (.cells #[.int .i64 3,.int .i64 1,.int .i64 2] 23)) w' T A knR0 [pairBox pp A cp sp,geoBox W.heap.size]):=by
  refine(Zom 3 1 2 10 false _ hg (by omega) (by omega)).mono ?_;rintro e w' ⟨T,A,pp,cp,sp,rfl,k1,k2,k3,k4⟩;refine⟨T,A,pp,cp,sp,rfl,k1.hn,fun x hx=> ?_⟩;rcases List.mem_cons.1 hx with e|e
  ·subst e
   exact⟨k2,k3,(by decide:(101:TypeId)≠39),(by decide:(3:TypeId)≠39),(by decide:(133:TypeId)≠39),(by decide:(203:TypeId)≠39)⟩
  ·rcases List.mem_cons.1 e with e|e
   ·subst e
    exact⟨ha1.below k1.bel ha1.lt,(k1.old _ ha1.lt).1,(by decide:(101:TypeId)≠23),(by decide:(3:TypeId)≠23),(by decide:(133:TypeId)≠23),(by decide:(203:TypeId)≠23)⟩
   ·cases e
 have HSE:Hid (∀w,Calls Tryz.prog 40 #[.int .u8 5] w fun e w'=>∃g,e=.returned (.slice (some ⟨g,0,none⟩) 128 128)/\At w' g (ucells knownS).toArray 5/\Below w.heap.size w w'):=fun w=>(Zpx 5 w).mono fun e w' ⟨x1,x2,x3⟩=>⟨_,x1,x2,x3⟩
 have HB1:=Lib.hid hb1;have d0:=ha1.cell 0;have d1:=ha1.cell 1;have d2:=ha1.cell 2;have hl1:=ha1.lt;clear hb1 ha1 hg;have HW1:Hid (W.heap.size≤(W.alloc (.cells #[.int .i64 3,.int .i64 1,.int .i64 2] 23)).heap.size):=HB1.out.size;go_enter Tryz.func9,Tryz.ntmps9;go_upto_region 5 with (go_at_call 11;(with_reducible refine HMA.out.mono ?_);rintro e w2 ⟨T2,A,pp,cp,sp,rfl,hb2⟩;have HB2:=Lib.hid hb2;clear hb2)
 obtain⟨w1,hw1⟩:∃w1,w1=(W.alloc (.cells #[.int .i64 3,.int .i64 1,.int .i64 2] 23)):=⟨_,rfl⟩;rw[<-hw1]at HB2 HB1 HW1;clear HMA hw1 d0 d1 d2 hl1;go_cut [3]from 14 to 22 (fun s3 wx=>∃tb T R V,s3=.pointer (some ⟨tb,0,none⟩)/\Hb w1 wx T A R [trBox tb,pairBox pp A cp sp,geoBox W.heap.size]/\KnR R V);case first=>
  have HZ2:Hid (w1.heap.size≤w2.heap.size):=HB2.out.hn.bel.size;have HNT:Hid (∀x∈ [pairBox pp A cp sp,geoBox W.heap.size],x.1<w2.heap.size):=fun x hx=>(HB2.out.box x hx).1.lt
  have HS:Hid (∀X L,Hb w1 X T2 A knR0 L->pairBox pp A cp sp∈L->X.cell? ⟨pp,2,none⟩=some (.pointer (some ⟨A.q,0,none⟩))):=fun X L h hm=>((h.box _ hm).1).cell 2
  have HS5:Hid (∀X T R L,Hb w1 X T A R L->pairBox pp A cp sp∈L->X.cell? ⟨pp,2,none⟩=some (.pointer (some ⟨A.q,0,none⟩))):=fun X T R L h hm=>((h.box _ hm).1).cell 2
  go_region_held3 (fun X=>X.cell? ⟨pp,2,none⟩=some (.pointer (some ⟨A.q,0,none⟩)))
   (first
    |(refine HS.out _ [pairBox pp A cp sp,geoBox W.heap.size] ?_ List.mem_cons_self;(focus ((repeat (first|with_reducible exact HB2.out|with_reducible refine Zbc ?_|with_reducible refine Zbt ?_|with_reducible exact HB3.out|with_reducible exact HBT.out));done)))
    |(refine HS.out _ [trBox w2.heap.size,pairBox pp A cp sp,geoBox W.heap.size] ?_ (List.mem_cons_of_mem _ List.mem_cons_self);(focus ((repeat (first|with_reducible exact HBT.out|with_reducible refine Zbc ?_|with_reducible refine Zbt ?_));done)))
    |(refine HS5.out _ _ _ _ HB5.out ?_;(first|exact List.mem_cons_self|exact List.mem_cons_of_mem _ List.mem_cons_self))
    |(refine HS5.out _ _ _ _ HFIN.out ?_;(first|exact List.mem_cons_self|exact List.mem_cons_of_mem _ List.mem_cons_self))
    |(refine HS5.out _ _ _ _ (Zbc HB5.out) ?_;(first|exact List.mem_cons_self|exact List.mem_cons_of_mem _ List.mem_cons_self)))
   (first
    |(go_at_call 40;(with_reducible refine(HSE.out _).mono ?_);rintro e w3 ⟨g3,rfl,hs3,hb3⟩;have HS3:=Lib.hid hs3;(refine Zw5 (P:=Hb w1 w3 T2 A knR0 [trBox w2.heap.size,pairBox pp A cp sp,geoBox W.heap.size]) ?_ ?_);(focus (refine Zow ?_ hb3;(repeat (first|with_reducible exact HB2.out|(with_reducible refine Zds ?_ ?_;(focus (first|with_reducible rfl|(simp only [Zaa];done))))|with_reducible refine Zbc ?_|with_reducible refine Zbt ?_|with_reducible exact HB3.out|with_reducible exact HBT.out));done));intro hbt;have HZ3:Hid (w1.heap.size≤w3.heap.size):=hbt.hn.bel.size;have HBT:=Lib.hid hbt;clear hbt;clear hs3 hb3)
    |(go_at_call 40;(with_reducible refine(HSE.out _).mono ?_);rintro e w3 ⟨g3,rfl,hs3,hb3⟩;have HS3:=Lib.hid hs3;(refine Zw5 (P:=Hb w1 w3 T2 A knR0 [pairBox pp A cp sp,geoBox W.heap.size]) ?_ ?_);(focus (refine Zow ?_ hb3;(repeat (first|with_reducible exact HB2.out|with_reducible refine Zbc ?_|with_reducible refine Zbt ?_|with_reducible exact HB3.out|with_reducible exact HBT.out));done));intro hbt;have HZ3:Hid (w1.heap.size≤w3.heap.size):=hbt.hn.bel.size;have HN3:Hid (∀x∈ [pairBox pp A cp sp,geoBox W.heap.size],x.1<w3.heap.size):=fun x hx=>(hbt.box x hx).1.lt;have HB3:=Lib.hid hbt;clear hbt;clear hs3 hb3)
    |(go_at_call 12;(with_reducible refine Calls.mono (Zgx (w0:=w1) (T:=T2) (A:=A) (g:=g3) (L:= [trBox w2.heap.size,pairBox pp A cp sp,geoBox W.heap.size]) ?_ ?_ ?_) ?_);(focus ((repeat (first|with_reducible exact HB2.out|(with_reducible refine Zds ?_ ?_;(focus (first|with_reducible rfl|(simp only [Zaa];done))))|with_reducible refine Zbc ?_|with_reducible refine Zbt ?_|with_reducible exact HB3.out|with_reducible exact HBT.out));done));(focus ((repeat (first|(with_reducible refine Zks ?_;(focus (first|with_reducible rfl|(simp only [Zaa];done))))|with_reducible refine Zcc ?_|with_reducible refine hat_drew ?_));done));(focus ((repeat (first|with_reducible exact HS3.out|with_reducible refine Zcc ?_|with_reducible refine hat_drew ?_));done));rintro e w5 ⟨rfl,T5,R5,V5,hb5,hk5⟩;have HB5:=Lib.hid hb5;have HK5:=Lib.hid hk5;have hx5:=hb5.get 0 rfl;have c0:=hx5.cell 0;have c1:=hx5.cell 1;have f0:=hx5.free 0;have f1:=hx5.free 1;have HFIN:=Lib.hid (hb5.zeros HZ2.out (fun x hx=>Nat.ne_of_lt (HNT.out x hx)));clear hx5;clear hb5 hk5)
    |(go_at_call 12;(with_reducible refine Calls.mono (Zgx (w0:=w1) (T:=T2) (A:=A) (g:=g3) (L:= [trBox w3.heap.size,pairBox pp A cp sp,geoBox W.heap.size]) ?_ ?_ ?_) ?_);(focus ((repeat (first|with_reducible exact HB2.out|(with_reducible refine Zds ?_ ?_;(focus (first|with_reducible rfl|(simp only [Zaa];done))))|with_reducible refine Zbc ?_|with_reducible refine Zbt ?_|with_reducible exact HB3.out|with_reducible exact HBT.out));done));(focus ((repeat (first|(with_reducible refine Zks ?_;(focus (first|with_reducible rfl|(simp only [Zaa];done))))|with_reducible refine Zcc ?_|with_reducible refine hat_drew ?_));done));(focus ((repeat (first|with_reducible exact HS3.out|with_reducible refine Zcc ?_|with_reducible refine hat_drew ?_));done));rintro e w5 ⟨rfl,T5,R5,V5,hb5,hk5⟩;have HB5:=Lib.hid hb5;have HK5:=Lib.hid hk5;have hx5:=hb5.get 0 rfl;have c0:=hx5.cell 0;have c1:=hx5.cell 1;have f0:=hx5.free 0;have f1:=hx5.free 1;have HFIN:=Lib.hid (hb5.zeros HZ3.out (fun x hx=>Nat.ne_of_lt (HN3.out x hx)));clear hx5;clear hb5 hk5)
    |(go_at_call 12;(with_reducible refine Calls.mono (Zgx (w0:=w1) (T:=T2) (A:=A) (g:=g3) (L:= [trBox (w3.heap.size+1),pairBox pp A cp sp,geoBox W.heap.size]) ?_ ?_ ?_) ?_);(focus ((repeat (first|with_reducible exact HB2.out|(with_reducible refine Zds ?_ ?_;(focus (first|with_reducible rfl|(simp only [Zaa];done))))|with_reducible refine Zbc ?_|with_reducible refine Zbt ?_|with_reducible exact HB3.out|with_reducible exact HBT.out));done));(focus ((repeat (first|(with_reducible refine Zks ?_;(focus (first|with_reducible rfl|(simp only [Zaa];done))))|with_reducible refine Zcc ?_|with_reducible refine hat_drew ?_));done));(focus ((repeat (first|with_reducible exact HS3.out|with_reducible refine Zcc ?_|with_reducible refine hat_drew ?_));done));rintro e w5 ⟨rfl,T5,R5,V5,hb5,hk5⟩;have HB5:=Lib.hid hb5;have HK5:=Lib.hid hk5;have hx5:=hb5.get 0 rfl;have c0:=hx5.cell 0;have c1:=hx5.cell 1;have f0:=hx5.free 0;have f1:=hx5.free 1;have HFIN:=Lib.hid (hb5.zeros (Nat.le_succ_of_le HZ3.out) (fun x hx=>Nat.ne_of_lt (Nat.lt_succ_of_lt (HN3.out x hx))));clear hx5;clear hb5 hk5)
    |(go_at_call 12;(with_reducible refine Calls.mono (Zgx (w0:=w1) (T:=T2) (A:=A) (g:=g3) (L:= [pairBox pp A cp sp,geoBox W.heap.size]) ?_ ?_ ?_) ?_);(focus ((repeat (first|with_reducible exact HB2.out|with_reducible refine Zbc ?_|with_reducible refine Zbt ?_|with_reducible exact HB3.out|with_reducible exact HBT.out));done));(focus ((repeat (first|(with_reducible refine Zks ?_;(focus (first|with_reducible rfl|(simp only [Zaa];done))))|with_reducible refine Zcc ?_|with_reducible refine hat_drew ?_));done));(focus ((repeat (first|with_reducible exact HS3.out|with_reducible refine Zcc ?_|with_reducible refine hat_drew ?_));done));rintro e w5 ⟨rfl,T5,R5,V5,hb5,hk5⟩;have HB5:=Lib.hid hb5;have HK5:=Lib.hid hk5;have HFIN:=Lib.hid (Zds rfl hb5);clear hb5 hk5))
  all_goals go_wp2_with fail
  all_goals go_meet
  all_goals exact⟨_,_,_,_,rfl,HFIN.out,HK5.out⟩
 case rest=>
  obtain⟨tb,T5,R5,V5,rfl,hb5,hk5⟩:=hcut;have p2:wc.cell? ⟨pp,2,none⟩=some (.pointer (some ⟨A.q,0,none⟩)):=(hb5.get 1 rfl).cell 2;have HB5:=Lib.hid hb5;have HK:=Lib.hid hk5;have HN5:Hid (pp<wc.heap.size):=(hb5.get 1 rfl).lt;clear hb5 hk5
  go_upto_region 10 with (first
   |(go_at_call 13;(with_reducible refine(Zvp HB5.out HK.out.res).mono ?_);rintro e w6 ⟨rfl,hb6⟩;clear p2;have HB6:=Lib.hid hb6;have p0:w6.cell? ⟨pp,0,none⟩=some (.pointer (some ⟨A.b,0,none⟩)):=(hb6.get 1 rfl).cell 0;clear hb6)
   |(go_at_call 30;(with_reducible refine(Zvq HB6.out HK.out.res HK.out.good).mono ?_);rintro e w7 ⟨rfl,hb7⟩;clear p0;have HB7:=Lib.hid hb7;have p0:w7.cell? ⟨pp,0,none⟩=some (.pointer (some ⟨A.b,0,none⟩)):=(hb7.get 1 rfl).cell 0;clear hb7)
   |(go_at_call 31;(with_reducible refine(Zws HB7.out HK.out.res HK.out.good HK.out.aside).mono ?_);rintro e w8 ⟨rfl,T8,hb8⟩;clear p0;have HB8:=Lib.hid hb8;have p0:w8.cell? ⟨pp,0,none⟩=some (.pointer (some ⟨A.b,0,none⟩)):=(hb8.get 1 rfl).cell 0;clear hb8)
   |(go_at_call 14;(with_reducible refine(Zqy HB8.out HK.out.res).mono ?_);rintro e w9 ⟨rfl,hb9⟩;clear p0;have HB9:=Lib.hid ((HB8.out.below hb9).push #[.int .i64 1,.int .i64 18,.int .i64 3] 46 (by decide) (by decide) (by decide) (by decide));clear hb9))
  obtain⟨cb,hcb⟩:∃cb,cb=w9.heap.size:=⟨_,rfl⟩;have HBA:Hid (Hb w1 (w9.alloc (.cells #[.int .i64 1,.int .i64 18,.int .i64 3] 46)) T8 A (R5.anew 0) (cntBox cb 1 18 3:: [trBox tb,pairBox pp A cp sp,geoBox W.heap.size])):=by rw[hcb];exact HB9.out
  rw[<-hcb];clear HB9 HB8 HB7 HB6 HB5 hcb;generalize (w9.alloc (.cells #[.int .i64 1,.int .i64 18,.int .i64 3] 46))=wa at*;go_cut [5]from 42 to 52 (fun s5 wx=>∃ub T s',s5=.pointer (some ⟨ub,0,none⟩)/\Hb w1 wx T A {R5.anew 0 with s:=s'} (trBox ub::(cntBox cb 1 18 3:: [trBox tb,pairBox pp A cp sp,geoBox W.heap.size]))/\Healed (R5.anew 0) V5 0 0 1 s');case first=>
   have HZA:Hid (w1.heap.size≤wa.heap.size):=HBA.out.hn.bel.size;have HS:Hid (∀X T R L,Hb w1 X T A R L->pairBox pp A cp sp∈L/\geoBox W.heap.size∈L->X.cell? ⟨pp,0,none⟩=some (.pointer (some ⟨A.b,0,none⟩))/\X.cell? ⟨pp,2,none⟩=some (.pointer (some ⟨A.q,0,none⟩))/\X.cell? ⟨W.heap.size,0,none⟩=some (.int .i64 3)/\X.cell? ⟨W.heap.size,1,none⟩=some (.int .i64 1)/\X.cell? ⟨W.heap.size,2,none⟩=some (.int .i64 2)):=fun X T R L h hm=>⟨((h.box _ hm.1).1).cell 0,((h.box _ hm.1).1).cell 2,((h.box _ hm.2).1).cell 0,((h.box _ hm.2).1).cell 1,((h.box _ hm.2).1).cell 2⟩
   have HM4:Hid (pairBox pp A cp sp∈(cntBox cb 1 18 3:: [trBox tb,pairBox pp A cp sp,geoBox W.heap.size])/\geoBox W.heap.size∈(cntBox cb 1 18 3:: [trBox tb,pairBox pp A cp sp,geoBox W.heap.size])):=⟨by simp,by simp⟩;have HM5:Hid (∀n,pairBox pp A cp sp∈(trBox n::(cntBox cb 1 18 3:: [trBox tb,pairBox pp A cp sp,geoBox W.heap.size]))/\geoBox W.heap.size∈(trBox n::(cntBox cb 1 18 3:: [trBox tb,pairBox pp A cp sp,geoBox W.heap.size]))):=fun n=>⟨by simp,by simp⟩
   have HL4:Hid (∀x∈(cntBox cb 1 18 3:: [trBox tb,pairBox pp A cp sp,geoBox W.heap.size]),x.1≠wa.heap.size):=fun x hx=>Nat.ne_of_lt (HBA.out.box x hx).1.lt
   go_region_held3 (fun X=>X.cell? ⟨pp,0,none⟩=some (.pointer (some ⟨A.b,0,none⟩))/\X.cell? ⟨pp,2,none⟩=some (.pointer (some ⟨A.q,0,none⟩))/\X.cell? ⟨W.heap.size,0,none⟩=some (.int .i64 3)/\X.cell? ⟨W.heap.size,1,none⟩=some (.int .i64 1)/\X.cell? ⟨W.heap.size,2,none⟩=some (.int .i64 2))
    (first
     |(refine HS.out _ T8 (R5.anew 0) (cntBox cb 1 18 3:: [trBox tb,pairBox pp A cp sp,geoBox W.heap.size]) ?_ HM4.out;(focus ((repeat (first|with_reducible exact HBA.out|with_reducible refine Zbc ?_|with_reducible refine Zbt ?_));done)))
     |exact HS.out _ _ _ _ HBB.out HM4.out
     |exact HS.out _ _ _ _ HBB.out (HM5.out _)
     |exact HS.out _ _ _ _ (Zbc HBB.out) HM4.out
     |exact HS.out _ _ _ _ HFIN.out (HM5.out _))
    (first
     |(go_at_call 15;(with_reducible refine Calls.mono (Zso (w0:=w1) (T:=T8) (A:=A) (R:=R5) (V:=V5) (L:=trBox wa.heap.size::(cntBox cb 1 18 3:: [trBox tb,pairBox pp A cp sp,geoBox W.heap.size])) ?_ HK.out.res HK.out.good) ?_);(focus ((repeat (first|with_reducible exact HBA.out|(with_reducible refine Zds ?_ ?_;(focus (first|with_reducible rfl|(simp only [Zaa];done))))|with_reducible refine Zbc ?_|with_reducible refine Zbt ?_));done));rintro e wb ⟨rfl,Tb,sb,hb,hh⟩;have hx:=hb.get 0 rfl;have c0:=hx.cell 0;have c1:=hx.cell 1;have f0:=hx.free 0;have f1:=hx.free 1;have HFIN:=Lib.hid (hb.zeros HZA.out HL4.out);have HBB:=Lib.hid hb;have HH:=Lib.hid hh;clear hb hh hx)
     |(go_at_call 15;(with_reducible refine Calls.mono (Zso (w0:=w1) (T:=T8) (A:=A) (R:=R5) (V:=V5) (L:=(cntBox cb 1 18 3:: [trBox tb,pairBox pp A cp sp,geoBox W.heap.size])) ?_ HK.out.res HK.out.good) ?_);(focus ((repeat (first|with_reducible exact HBA.out|with_reducible refine Zbc ?_|with_reducible refine Zbt ?_));done));rintro e wb ⟨rfl,Tb,sb,hb,hh⟩;have HFIN:=Lib.hid (Zds rfl hb);have HBB:=Lib.hid hb;have HH:=Lib.hid hh;clear hb hh))
   all_goals go_wp2_with fail
   all_goals go_meet
   all_goals exact⟨_,_,_,rfl,HFIN.out,HH.out⟩
  case rest=>
   obtain⟨ub,T10,s10,rfl,hb10,hh⟩:=hcut;have p0:wc.cell? ⟨pp,0,none⟩=some (.pointer (some ⟨A.b,0,none⟩)):=(hb10.get 3 rfl).cell 0;have HB10:=Lib.hid hb10;have HH:=Lib.hid hh;have HP10:Hid (pp<wc.heap.size):=(hb10.get 3 rfl).lt;clear hb10 hh HBA
   go_wp2_with (first
    |(go_at_call 14;(with_reducible refine(Zqa HB10.out HH.out HK.out.res).mono ?_);rintro e w11 ⟨rfl,hb11⟩;clear p0;have hp:=(HB10.out.below hb11).push #[.int .i64 3,.int .i64 19,.int .i64 4] 46 (by decide) (by decide) (by decide) (by decide);have p0:(w11.alloc (.cells #[.int .i64 3,.int .i64 19,.int .i64 4] 46)).cell? ⟨pp,0,none⟩=some (.pointer (some ⟨A.b,0,none⟩)):=(hp.get 4 rfl).cell 0;have HB11:=Lib.hid hp;clear hb11 hp)
    |(go_at_call 34;(with_reducible refine(Zuw HB11.out HH.out HK.out.res HK.out.good HK.out.blk).mono ?_);rintro e w12 ⟨gi,ci,rfl,hb12,hci,hli⟩;clear p0;have hp:=HB11.out.below hb12;have n0:w12.cell? ⟨w11.heap.size,0,none⟩=some (.int .i64 3):=(hp.get 0 rfl).cell 0;have n1:w12.cell? ⟨w11.heap.size,1,none⟩=some (.int .i64 19):=(hp.get 0 rfl).cell 1;have n2:w12.cell? ⟨w11.heap.size,2,none⟩=some (.int .i64 4):=(hp.get 0 rfl).cell 2;have v0:w12.cell? ⟨ub,0,none⟩=some (.int .i64 0):=(hp.get 1 rfl).cell 0;have v1:w12.cell? ⟨ub,1,none⟩=some (.int .u16 0):=(hp.get 1 rfl).cell 1;have m0:w12.cell? ⟨cb,0,none⟩=some (.int .i64 1):=(hp.get 2 rfl).cell 0;have m1:w12.cell? ⟨cb,1,none⟩=some (.int .i64 18):=(hp.get 2 rfl).cell 1;have m2:w12.cell? ⟨cb,2,none⟩=some (.int .i64 3):=(hp.get 2 rfl).cell 2;have t0:w12.cell? ⟨tb,0,none⟩=some (.int .i64 0):=(hp.get 3 rfl).cell 0;have t1:w12.cell? ⟨tb,1,none⟩=some (.int .u16 0):=(hp.get 3 rfl).cell 1;have HB12:=Lib.hid hp;clear hb12 hp))
   go_ret;exact⟨rfl,HB1.out.trans (HB12.out.hn.bel.mono HW1.out)⟩
open Go.RowKit
structure HcP (R:RS) (V:Nat->Nat->Sec) (M C S ring:Nat) (lazy:Bool) (a b:Nat):Prop where
 good:Good R V
 idle:R.lazy=true\/R.wait= []
 bud:Bud R a b
 up:R.fr=fun _=> -1
 aside:∀q,q%3≠0->R.s.pos q=none
 M:R.M=M
 C:R.C=C
 S:R.S=S
 size:R.size=ring
 lazy:R.lazy=lazy
theorem HcP.more {R:RS} {V:Nat->Nat->Sec} {M C S ring:Nat} {lazy:Bool} {a b a' b':Nat} (h:HcP R V M C S ring lazy a b) (ha:a≤a') (hb:b≤b'):HcP R V M C S ring lazy a' b':=⟨h.good,h.idle,h.bud.mono ha hb,h.up,h.aside,h.M,h.C,h.S,h.size,h.lazy⟩
theorem HcP.next {R R':RS} {V V':Nat->Nat->Sec} {M C S ring:Nat} {lazy:Bool} {a b a' b':Nat} (h:HcP R V M C S ring lazy a b) (hs:Same R R') (hg:Good R' V') (hi:R'.lazy=true\/R'.wait= []) (hb:Bud R' a' b'):HcP R' V' M C S ring lazy a' b':=
 ⟨hg,hi,hb,hs.fr.trans h.up,fun q hq=>(hs.base.aside q hq).trans (h.aside q hq),hs.M.trans h.M,hs.C.trans h.C,hs.S.trans h.S,hs.size.trans h.size,hs.lazy.trans h.lazy⟩
theorem HcP.begun {M C S ring:Nat} {lazy:Bool} (hg:geoIs M C S=true) (h5:5≤ring) (h6:ring≤2048):HcP (made0R M C S ring lazy) zeroV M C S ring lazy 10000 3000:=by
 have g4:=(Zbe hg).2.2.2;have hm:=Zey (M:=M) (C:=C) (S:=S) g4 h5 h6;refine⟨Zfb hg h5 h6 hm,.inr rfl,⟨?_,?_,?_,by show 1≤_;omega,ring+1,hm.small,by show ring+1+0≤3000;omega⟩,rfl,hm.aside,rfl,rfl,rfl,rfl,rfl⟩
 ·show(formed _ _ _ _).cnt 0≤_
  rw[hm.c0];omega
 ·show(formed _ _ _ _).cnt 1≤_
  rw[hm.c1];omega
 ·show(formed _ _ _ _).cnt 2≤_
  rw[hm.c2];omega
section
variable {w0 W:World} {T:Nat->Nat} {A:Adr} {R:RS} {V:Nat->Nat->Sec} {L:List (Nat×Array Value×TypeId)} {M C S ring:Nat} {lazy:Bool} {a b:Nat}
theorem Zut (h:Hb w0 W T A R L) (hp:HcP R V M C S ring lazy a b) (hin:Within a b) (pv:Value) (us:List (Int×List UInt8)) (hu:PutSeg w0 pv us):
  Calls Tryz.prog 12 #[.pointer (some ⟨A.q,0,none⟩),pv] W fun e w'=>(∃c:Nat,e=.returned (.agg #[.int .i64 0,.int .u16 c]))/\∃T' R' V',Hb w0 w' T' A R' L/\HcP R' V' M C S ring lazy (a+1000000) (b+8*us.length+4):=by
 refine(Zwr (h.lat hp.good hp.idle) hp.bud hin pv us hu).mono ?_;rintro e w' ⟨rfl,T',R',V',hl,hs,hb,hsm,-⟩;exact⟨⟨_,rfl⟩,T',R',V',h.step hl.hn hs,hp.next hsm hl.good hl.idle hb⟩
theorem Zvo (h:Hb w0 W T A R L) (hp:HcP R V M C S ring lazy a b) (m:Nat) (hm:m<M):
  Calls Tryz.prog 13 #[.pointer (some ⟨A.q,0,none⟩),.int .i64 m,.bool true,.int .i64 0] W fun e w'=>e=.returned (.tuple #[])/\Hb w0 w' T A (R.marked m true) L:=by
 refine(Zvf h.hn m true (by rw[hp.M];exact hm)).mono ?_;rintro e w' ⟨rfl,k1,k2⟩;exact⟨rfl,h.step k1 k2⟩
theorem Zr7 {m:Nat} (h:Hb w0 W T A (R.marked m true) L) (hp:HcP R V M C S ring lazy a b) (hin:Within a b) (hw:R.wait= []) (hm:m<M) (s:Nat) (hs:s<S):
  Calls Tryz.prog 15 #[.pointer (some ⟨A.b,0,none⟩),.agg #[.int .i64 M,.int .i64 C,.int .i64 S],.pointer (some ⟨A.q,0,none⟩),.int .i64 m,.int .i64 s] W fun e w'=>e=.returned (.agg #[.int .i64 0,.int .u16 0])/\∃T' s',Hb w0 w' T' A {R.marked m true with s:=s'} L/\Healed (R.marked m true) V m (s*C) C s':=by
 have hM:(R.marked m true).M=M:=hp.M;have hC:(R.marked m true).C=C:=hp.C;have hS:(R.marked m true).S=S:=hp.S;have hdn:∀r,(R.marked m true).dn m r=true:=fun r=>by
  unfold RS.dn RS.marked;simp
 have i1:=hin.a;have i2:=hin.b;have b0:=hp.bud.c0;have b1:=hp.bud.c1;have b2:=hp.bud.c2;have k:=Zvb (h.lat (hp.good.mark hp.up m) (.inr hw)) hw m s (by rw[hM];exact hm) (by rw[hS];exact hs) (fun k _=>hdn _) ((hp.good.allUp hp.up).sub fun _ _=>trivial) (by show R.s.cnt 0≤_;omega) (by show R.s.cnt 1≤_;omega) (by show R.s.cnt 2≤_;omega) (hp.bud.small' (by omega));have e0:(.agg #[.int .i64 (R.marked m true).M,.int .i64 (R.marked m true).C,.int .i64 (R.marked m true).S]:Value)=.agg #[.int .i64 M,.int .i64 C,.int .i64 S]:=by rw[hM,hC,hS]
 rw[e0]at k;refine k.mono ?_;rintro e w' ⟨rfl,T',s',k1,k2,k3⟩;rw[hC]at k3;exact⟨rfl,T',s',h.step k1.hn k2,k3⟩
theorem Zpf {m:Nat} {x y z:Int} (h:Hb w0 W T A (R.marked m true) L) (h0:R.s.cnt 0=x) (h1:R.s.cnt 1=y) (h2:R.s.cnt 2=z):
  Calls Tryz.prog 14 #[.pointer (some ⟨A.b,0,none⟩)] W fun e w'=>e=.returned (.agg #[.int .i64 x,.int .i64 y,.int .i64 z])/\Below W.heap.size W w':=Zg1 h.hn h0 h1 h2
theorem Zo6 {m q:Nat} {x y z:Int} {P:Nat} {s':BaySt} (h:Hb w0 W T A {R.marked m true with s:=s'} L) (hs:Healed (R.marked m true) V m q C s') (hM:R.M=M) (hP:C*(M-1)=P) (h0:R.s.cnt 0=x) (h1:R.s.cnt 1=y) (h2:R.s.cnt 2=z):
  Calls Tryz.prog 14 #[.pointer (some ⟨A.b,0,none⟩)] W fun e w'=>e=.returned (.agg #[.int .i64 (x+(P:Int)),.int .i64 (y+(C:Int)),.int .i64 (z+1)])/\Below W.heap.size W w':=by
 have e0:(R.marked m true).s.cnt 0=x:=h0;have e1:(R.marked m true).s.cnt 1=y:=h1;have e2:(R.marked m true).s.cnt 2=z:=h2;have eM:(R.marked m true).M=M:=hM;exact Zg1 h.hn (by show s'.cnt 0=_;rw[hs.c0,e0,eM,hP]) (by show s'.cnt 1=_;rw[hs.c1,e1]) (by show s'.cnt 2=_;rw[hs.c2,e2])
theorem Zqi (hp:HcP R V M C S ring lazy a b) (h:Hb w0 W T A R L):∃x y z:Int,R.s.cnt 0=x/\R.s.cnt 1=y/\R.s.cnt 2=z/\0≤x/\x≤a/\0≤y/\y≤a/\0≤z/\z≤a:=by
 obtain⟨lg,vw,X,hr⟩:=h.hn.rw;obtain⟨gs,ptr,tg,dp,hin⟩:=hr.bay;exact⟨_,_,_,rfl,rfl,rfl,hin.cl 0,hp.bud.c0,hin.cl 1,hp.bud.c1,hin.cl 2,hp.bud.c2⟩
end
end Go.Proofs.YtljjjpakcbcioaaGreat
namespace Go.Proofs.YtljjjpakcbcioaaGreat
open Go.RowKit
abbrev gBox (g M C S:Nat):Nat×Array Value×TypeId:=(g,#[.int .i64 M,.int .i64 C,.int .i64 S],23)
theorem Zwe {w0 W:World} {T:Nat->Nat} {A:Adr} {R:RS} {V:Nat->Nat->Sec} {pp cp sp g M C S:Nat} (h:LAt w0 W T A R V) (k2:At W pp (pairCells A cp sp) 39) (k3:T pp=0) (hg:At w0 g #[.int .i64 M,.int .i64 C,.int .i64 S] 23):Hb w0 W T A R [pairBox pp A cp sp,gBox g M C S]:=by
 refine⟨h.hn,fun x hx=> ?_⟩;rcases List.mem_cons.1 hx with e|e
 ·subst e
  exact⟨k2,k3,(by decide:(101:TypeId)≠39),(by decide:(3:TypeId)≠39),(by decide:(133:TypeId)≠39),(by decide:(203:TypeId)≠39)⟩
 ·rcases List.mem_cons.1 e with e|e
  ·subst e
   exact⟨hg.below h.bel hg.lt,(h.old _ hg.lt).1,(by decide:(101:TypeId)≠23),(by decide:(3:TypeId)≠23),(by decide:(133:TypeId)≠23),(by decide:(203:TypeId)≠23)⟩
  ·cases e
theorem Zj9 (m c s ring:Int) (a1 a2:Int) (v:Value) (l:List (List (Int×List UInt8))) (w:World) (hv:HOpSeg w v l) (h:mayIs m c s ring=false):
  Calls Tryz.prog 3 #[geo m c s,.int .i64 ring,.int .i64 a1,.int .i64 a2,v] w fun e w'=>e=.returned (.bool true)/\Below w.heap.size w w':=by
 have hb0:Below w.heap.size w (w.alloc (.cells #[.int .i64 m,.int .i64 c,.int .i64 s] 23)):=(Below.refl _ _).alloc (Nat.le_refl _) _;have ha0:At (w.alloc (.cells #[.int .i64 m,.int .i64 c,.int .i64 s] 23)) w.heap.size #[.int .i64 m,.int .i64 c,.int .i64 s] 23:=At.new _ _ _;have KU:=Lib.hid (Zol m c s v l _ (hv.below hb0));have KK:Hid (∀W,Calls Tryz.prog 9 #[] W fun e w'=>e=.returned (.bool true)/\Below W.heap.size W w'):=Zl0;have KM:Hid (∀W,Calls Tryz.prog 10 #[geo m c s,.int .i64 ring] W fun e w'=>e=.returned (.bool false)/\Below W.heap.size W w'):=fun W=>by
  have:=Zri m c s ring W;rw[h]at this;exact this
 have HB0:=Lib.hid hb0;have HA0:=Lib.hid ha0;have c0:=ha0.cell 0;have c1:=ha0.cell 1;have c2:=ha0.cell 2;have hl0:=ha0.lt;unfold geo at*;clear hb0 ha0 h hv;go_enter Tryz.func3,Tryz.ntmps3
 go_wp2_with (first
  |(go_at_call 8;(with_reducible refine KU.out.mono ?_);rintro e w1 ⟨r,rfl,hr,hb1⟩;clear c0 c1 c2;have HB1:=Lib.hid (Zac HB0.out hb1);have HA1:=Lib.hid (HA0.out.below hb1 HA0.out.lt);clear hr hb1)
  |(go_at_call 9;(with_reducible refine(KK.out _).mono ?_);rintro e w2 ⟨rfl,hb2⟩;have HB2:=Lib.hid (Zac HB1.out hb2);have ha2:=HA1.out.below hb2 HA1.out.lt;have c0:=ha2.cell 0;have c1:=ha2.cell 1;have c2:=ha2.cell 2;have hl2:=ha2.lt;clear ha2 hb2)
  |(go_at_call 10;(with_reducible refine(KM.out _).mono ?_);rintro e w3 ⟨rfl,hb3⟩;have HB3:=Lib.hid (Zac HB2.out hb3);clear hb3))
 all_goals (first|(go_ret;exact⟨rfl,HB3.out⟩)|(go_ret;exact⟨rfl,HB1.out⟩))
theorem Zkm (M C S ring:Nat) (a1 a2:Int) (v:Value) (l:List (List (Int×List UInt8))) (w:World) (hv:HOpSeg w v l) (hg:geoIs M C S=true) (h5:5≤ring) (h6:ring≤2048):
  Calls Tryz.prog 3 #[geo M C S,.int .i64 ring,.int .i64 a1,.int .i64 a2,v] w fun e w'=>e=.returned (.bool true)/\Below w.heap.size w w':=by
 have hb0:Below w.heap.size w (w.alloc (.cells #[.int .i64 M,.int .i64 C,.int .i64 S] 23)):=(Below.refl _ _).alloc (Nat.le_refl _) _;have ha0:At (w.alloc (.cells #[.int .i64 M,.int .i64 C,.int .i64 S] 23)) w.heap.size #[.int .i64 M,.int .i64 C,.int .i64 S] 23:=At.new _ _ _;have KU:=Lib.hid (Zol M C S v l _ (hv.below hb0));have KK:Hid (∀W,Calls Tryz.prog 9 #[] W fun e w'=>e=.returned (.bool true)/\Below W.heap.size W w'):=Zl0;have KM:Hid (∀W,Calls Tryz.prog 10 #[geo M C S,.int .i64 ring] W fun e w'=>e=.returned (.bool true)/\Below W.heap.size W w'):=fun W=>by
  have:=Zri M C S ring W;have hm:mayIs M C S ring=true:=by
   unfold mayIs;rw[hg,decide_eq_true (show(5:Int)≤ring by omega),decide_eq_true (show(ring:Int)≤2048 by omega)];rfl
  rw[hm]at this;exact this
 have KD:=Lib.hid (fun W=>Zom M C S ring false W hg h5 h6);have HPB:Hid (HcP (made0R M C S ring false) zeroV M C S ring false 10000 3000):=HcP.begun hg h5 h6;have hgb:=Zbe hg;have hgi:=(Zam M C S).1 hg;have HB0:=Lib.hid hb0;have HA0:=Lib.hid ha0;have HV:=Lib.hid hv;have c0:=ha0.cell 0;have c1:=ha0.cell 1;have c2:=ha0.cell 2;have hl0:=ha0.lt;have hlf:=hv.few;obtain⟨va,vc,rfl⟩:=hv.shape;unfold geo at*;clear hb0 ha0 hv h5 h6 hg;go_enter Tryz.func3,Tryz.ntmps3
 go_wp2_with (first
  |(go_at_call 8;(with_reducible refine KU.out.mono ?_);rintro e w1 ⟨r,rfl,hr,hb1⟩;clear c0 c1 c2;have HMU:=Lib.hid hr;have HB1:=Lib.hid (Zac HB0.out hb1);have HA1:=Lib.hid (HA0.out.below hb1 HA0.out.lt);clear hr hb1)
  |(go_at_call 9;(with_reducible refine(KK.out _).mono ?_);rintro e w2 ⟨rfl,hb2⟩;have HB2:=Lib.hid (Zac HB1.out hb2);have ha2:=HA1.out.below hb2 HA1.out.lt;have c0:=ha2.cell 0;have c1:=ha2.cell 1;have c2:=ha2.cell 2;have hl2:=ha2.lt;have HA2:=Lib.hid ha2;clear ha2 hb2)
  |(go_at_call 10;(with_reducible refine(KM.out _).mono ?_);rintro e w3 ⟨rfl,hb3⟩;clear c0 c1 c2;have HB3:=Lib.hid (Zac HB2.out hb3);have ha3:=HA2.out.below hb3 HA2.out.lt;have c0:=ha3.cell 0;have c1:=ha3.cell 1;have c2:=ha3.cell 2;have hl3:=ha3.lt;have HA3:=Lib.hid ha3;clear ha3 hb3)
  |(go_at_call 11;(with_reducible refine(KD.out w3).mono ?_);rintro e w4 ⟨T,A,pp,cp,sp,rfl,k1,k2,k3,k4⟩;clear c0 c1 c2;have HBX:Hid (Hb w3 w4 T A (made0R M C S ring false) [pairBox pp A cp sp,gBox w.heap.size M C S]):=Zwe k1 k2 k3 HA3.out;have HVV:Hid (HOpSeg w3 (.slice va l.length vc) l):=HV.out.below HB3.out;clear k1 k2 k3 k4))
 any_goals (first|(go_ret;exact⟨rfl,HB1.out⟩)|skip)
 have HFW:Hid (FewHeal M C S l):=HMU.out (by first|assumption|(exact Bool.eq_false_iff.2 (by assumption))|(cases r<;>simp_all));clear KU KK KM KD HMU HA0 HA1 HA2 HV HB0 HB1 HB2;go_loopw [12] (fun q wr=>∃k:Nat,k≤l.length/\q=.int .i64 k/\∃T R V,Hb w3 wr T A R [pairBox pp A cp sp,gBox w.heap.size M C S]/\HcP R V M C S ring false (swA k) (swB l k)) (fun q _=>l.length-(intOf q).toNat);case atStart=>exact⟨0,by omega,rfl,_,_,_,HBX.out,HPB.out.more (by unfold swA;omega) (by unfold swB;omega)⟩
 case round=>
  clear HBX HPB;obtain⟨k,hk,rfl,T,R,V,hbx,hpx⟩:=hrel;have HBX:=Lib.hid hbx;have HPX:=Lib.hid hpx;clear hbx hpx;by_cases hkl:k<l.length
  ·have K1:Hid (k+1≤l.length):=hkl
   obtain⟨bb,off,rfl,hlt,hx⟩:=HVV.out.full (by omega);obtain⟨u4,x4,q4⟩:=hx k hkl;obtain⟨pa,pc,rfl⟩:=q4.shape;have hbw:=HBX.out.hn.bel;have hlt':bb<wr.heap.size:=Nat.lt_of_lt_of_le hlt hbw.size;have HQ4:=Lib.hid q4;have hin:=Zre HFW.out hk;have HIN:Hid (Within (swA k) (swB l k)):=⟨by have:=hin.a;omega,by have:=hin.b;omega⟩;have HNX:Hid (∀R V,HcP R V M C S ring false (swA k+1000000) (swB l k+8*(l[k]'hkl).length+4)->HcP R V M C S ring false (swA (k+1)) (swB l (k+1))):=fun R V h=>h.more (by rw[Zug];omega) (by rw[Zu6 hkl];omega)
   have HSS:Hid (∀W T R,Hb w3 W T A R [pairBox pp A cp sp,gBox w.heap.size M C S]->W.cell? ⟨pp,2,none⟩=some (.pointer (some ⟨A.q,0,none⟩))/\W.cell? ⟨bb,off+k*5+4,none⟩=some (.slice pa (l[k]'hkl).length pc)):=fun W T R h=>⟨(h.get 0 rfl).cell 2,(h.hn.bel.cell (p:=⟨bb,off+k*5+4,none⟩) hlt).trans x4⟩
   clear x4 q4 hx hbw hin;generalize (l[k]'hkl)=us at*;go_wp2;go_region_held3 (fun W=>W.cell? ⟨pp,2,none⟩=some (.pointer (some ⟨A.q,0,none⟩))/\W.cell? ⟨bb,off+k*5+4,none⟩=some (.slice pa us.length pc))
    (first|exact HSS.out _ _ _ HBX.out|exact HSS.out _ _ _ (Zbt HBX.out)|exact HSS.out _ _ _ HB9.out)
    (first|(go_at_call 12;(with_reducible refine(Zut (Zbt HBX.out) HPX.out HIN.out _ us HQ4.out).mono ?_);rintro e w9 ⟨⟨cd,rfl⟩,T9,R9,V9,hb9,hp9⟩;have HB9:=Lib.hid hb9;have HP9:=Lib.hid hp9;clear hb9 hp9))
   go_wp2;exact⟨⟨k+1,K1.out,by go_num,_,_,_,HB9.out,HNX.out _ _ HP9.out⟩,by simp[intOf];have:=K1.out;omega⟩
  ·obtain rfl:k=l.length:=by omega
   have hin:=Zre HFW.out (Nat.le_refl l.length);have HI9:Hid (Within (swA l.length) (swB l l.length)):=⟨by have:=hin.a;omega,by have:=hin.b;omega⟩;have HW0:Hid (R.wait= []):=HPX.out.idle.resolve_left (by rw[HPX.out.lazy];simp);have HA9:Hid (swA l.length≤900000000000):=by have:=hin.a;show _≤_;omega
   have tm:∀(a:Int) (n:Nat),0<n-> -(n:Int)<Int.tmod a n/\Int.tmod a n<n/\((Int.tmod a n).natAbs<n):=fun a n hn=>by
    have h1:=Int.natAbs_tmod a n;have h2:a.natAbs%n<n:=Nat.mod_lt _ hn;have h3:(Int.tmod a n).natAbs<n:=by rw[h1,Int.natAbs_natCast];exact h2
    omega
   obtain⟨r1a,r1b,hm0⟩:=tm a1 M (by omega);obtain⟨r2a,r2b,hk0⟩:=tm a2 S (by omega);have hmx:∀z:Int,((z.natAbs:Nat):Int)=if z< -z then -z else z:=fun z=>by split<;>omega
   have hmx1:=Lib.hid (hmx (Int.tmod a1 M));have hmx2:=Lib.hid (hmx (Int.tmod a2 S));clear tm hmx hin;have m0a:¬M=0:=by omega
   have m0b:¬S=0:=by omega
   have m0c:¬(M:Int)=0:=by omega
   have m0d:¬(S:Int)=0:=by omega
   have HK0:Hid ((Int.tmod a2 S).natAbs<S):=hk0;have HM0:Hid ((Int.tmod a1 M).natAbs<M):=hm0;clear hm0 hk0;generalize hem:(Int.tmod a1 M).natAbs=m0 at*;generalize hek:(Int.tmod a2 S).natAbs=k0 at*;clear hem hek;obtain⟨x,y,z,hx0,hx1,hx2,x0,x1,y0,y1,z0,z1⟩:=Zqi HPX.out HBX.out;have HX:=Lib.hid (And.intro hx0 (And.intro hx1 hx2));have x1':x≤900000000000:=by have:=HA9.out;omega
   have y1':y≤900000000000:=by have:=HA9.out;omega
   have z1':z≤900000000000:=by have:=HA9.out;omega
   clear hx0 hx1 hx2 x1 y1 z1;generalize swB l l.length=sb at*;generalize swA l.length=sa at*;have c0:=(HBX.out.get 1 rfl).cell 0;have c1:=(HBX.out.get 1 rfl).cell 1;have c2:=(HBX.out.get 1 rfl).cell 2;have hlw:=(HBX.out.get 1 rfl).lt;go_wp2;go_quiet (fail);have HBD:Hid (Hb w3 (wr.drewN nq) T A R [pairBox pp A cp sp,gBox w.heap.size M C S]):=HBX.out.below (below_drewN (Below.refl _ _) _);clear HBX c0 c1 c2 hlw;generalize wr.drewN nq=wd at*;have p2:wd.cell? ⟨pp,2,none⟩=some (.pointer (some ⟨A.q,0,none⟩)):=(HBD.out.get 0 rfl).cell 2
   go_upto_region 18 with (first
    |(first|(refine Zi5 rfl _ _ 3 rfl _ _ (m0:Int) rfl rfl hmx1.out ?_)|(refine Zi5 rfl _ _ 3 rfl _ _ (k0:Int) rfl rfl hmx2.out ?_))
    |(go_at_call 13;(with_reducible refine(Zvo HBD.out HPX.out m0 HM0.out).mono ?_);rintro e w6 ⟨rfl,hb6⟩;clear p2;have HB6:=Lib.hid hb6;have p0:w6.cell? ⟨pp,0,none⟩=some (.pointer (some ⟨A.b,0,none⟩)):=(hb6.get 0 rfl).cell 0;clear hb6)
    |(go_at_call 14;(with_reducible refine(Zpf HB6.out HX.out.1 HX.out.2.1 HX.out.2.2).mono ?_);rintro e w9 ⟨rfl,hb9⟩;clear p0;have HB9:=Lib.hid ((HB6.out.below hb9).push #[.int .i64 x,.int .i64 y,.int .i64 z] 46 (by decide) (by decide) (by decide) (by decide));clear hb9))
   obtain⟨cb,hcb⟩:∃cb,cb=w9.heap.size:=⟨_,rfl⟩;have HBA:Hid (Hb w3 (w9.alloc (.cells #[.int .i64 x,.int .i64 y,.int .i64 z] 46)) T A (R.marked m0 true) (cntBox cb x y z:: [pairBox pp A cp sp,gBox w.heap.size M C S])):=by rw[hcb];exact HB9.out
   rw[<-hcb];clear HB9 HB6 HBD hcb;generalize (w9.alloc (.cells #[.int .i64 x,.int .i64 y,.int .i64 z] 46))=wa at*;go_cut [16]from 75 to 87 (fun s5 wx=>∃ub T s',s5=.pointer (some ⟨ub,0,none⟩)/\Hb w3 wx T A {R.marked m0 true with s:=s'} (trBox ub::(cntBox cb x y z:: [pairBox pp A cp sp,gBox w.heap.size M C S]))/\Healed (R.marked m0 true) V m0 (k0*C) C s');case first=>
    have HZA:Hid (w3.heap.size≤wa.heap.size):=HBA.out.hn.bel.size;have HS:Hid (∀X T R L,Hb w3 X T A R L->pairBox pp A cp sp∈L/\gBox w.heap.size M C S∈L->X.cell? ⟨pp,0,none⟩=some (.pointer (some ⟨A.b,0,none⟩))/\X.cell? ⟨pp,2,none⟩=some (.pointer (some ⟨A.q,0,none⟩))/\X.cell? ⟨w.heap.size,0,none⟩=some (.int .i64 M)/\X.cell? ⟨w.heap.size,1,none⟩=some (.int .i64 C)/\X.cell? ⟨w.heap.size,2,none⟩=some (.int .i64 S)):=fun X T R L h hm=>⟨((h.box _ hm.1).1).cell 0,((h.box _ hm.1).1).cell 2,((h.box _ hm.2).1).cell 0,((h.box _ hm.2).1).cell 1,((h.box _ hm.2).1).cell 2⟩
    have HM4:Hid (pairBox pp A cp sp∈(cntBox cb x y z:: [pairBox pp A cp sp,gBox w.heap.size M C S])/\gBox w.heap.size M C S∈(cntBox cb x y z:: [pairBox pp A cp sp,gBox w.heap.size M C S])):=⟨by simp,by simp⟩;have HM5:Hid (∀n,pairBox pp A cp sp∈(trBox n::(cntBox cb x y z:: [pairBox pp A cp sp,gBox w.heap.size M C S]))/\gBox w.heap.size M C S∈(trBox n::(cntBox cb x y z:: [pairBox pp A cp sp,gBox w.heap.size M C S]))):=fun n=>⟨by simp,by simp⟩
    have HL4:Hid (∀bx∈(cntBox cb x y z:: [pairBox pp A cp sp,gBox w.heap.size M C S]),bx.1≠wa.heap.size):=fun bx hx=>Nat.ne_of_lt (HBA.out.box bx hx).1.lt
    go_region_held3 (fun X=>X.cell? ⟨pp,0,none⟩=some (.pointer (some ⟨A.b,0,none⟩))/\X.cell? ⟨pp,2,none⟩=some (.pointer (some ⟨A.q,0,none⟩))/\X.cell? ⟨w.heap.size,0,none⟩=some (.int .i64 M)/\X.cell? ⟨w.heap.size,1,none⟩=some (.int .i64 C)/\X.cell? ⟨w.heap.size,2,none⟩=some (.int .i64 S))
     (first
      |(refine HS.out _ T (R.marked m0 true) (cntBox cb x y z:: [pairBox pp A cp sp,gBox w.heap.size M C S]) ?_ HM4.out;(focus ((repeat (first|with_reducible exact HBA.out|with_reducible refine Zbc ?_|with_reducible refine Zbt ?_));done)))
      |exact HS.out _ _ _ _ HBB.out HM4.out
      |exact HS.out _ _ _ _ HBB.out (HM5.out _)
      |exact HS.out _ _ _ _ (Zbc HBB.out) HM4.out
      |exact HS.out _ _ _ _ HFIN.out (HM5.out _))
     (first
      |(go_at_call 15;(with_reducible refine Calls.mono (Zr7 (w0:=w3) (T:=T) (A:=A) (R:=R) (V:=V) (L:=trBox wa.heap.size::(cntBox cb x y z:: [pairBox pp A cp sp,gBox w.heap.size M C S])) ?_ HPX.out HI9.out HW0.out HM0.out k0 HK0.out) ?_);(focus ((repeat (first|with_reducible exact HBA.out|(with_reducible refine Zds ?_ ?_;(focus (first|with_reducible rfl|(simp only [Zaa];done))))|with_reducible refine Zbc ?_|with_reducible refine Zbt ?_));done));rintro e wb ⟨rfl,Tb,sbb,hb,hh⟩;have hx:=hb.get 0 rfl;have c0:=hx.cell 0;have c1:=hx.cell 1;have f0:=hx.free 0;have f1:=hx.free 1;have HFIN:=Lib.hid (hb.zeros HZA.out HL4.out);have HBB:=Lib.hid hb;have HH:=Lib.hid hh;clear hb hh hx)
      |(go_at_call 15;(with_reducible refine Calls.mono (Zr7 (w0:=w3) (T:=T) (A:=A) (R:=R) (V:=V) (L:=(cntBox cb x y z:: [pairBox pp A cp sp,gBox w.heap.size M C S])) ?_ HPX.out HI9.out HW0.out HM0.out k0 HK0.out) ?_);(focus ((repeat (first|with_reducible exact HBA.out|with_reducible refine Zbc ?_|with_reducible refine Zbt ?_));done));rintro e wb ⟨rfl,Tb,sbb,hb,hh⟩;have HFIN:=Lib.hid (Zds rfl hb);have HBB:=Lib.hid hb;have HH:=Lib.hid hh;clear hb hh))
    all_goals go_wp2_with fail
    all_goals go_meet
    all_goals exact⟨_,_,_,rfl,HFIN.out,HH.out⟩
   case rest=>
    obtain⟨ub,T10,s10,rfl,hb10,hh⟩:=hcut;have p0:wc.cell? ⟨pp,0,none⟩=some (.pointer (some ⟨A.b,0,none⟩)):=(hb10.get 2 rfl).cell 0;have HB10:=Lib.hid hb10;have HH:=Lib.hid hh;obtain⟨P,hP⟩:∃P,C*(M-1)=P:=⟨_,rfl⟩;have HPP:Hid (C*(M-1)=P):=hP;have hP2:P≤16*16:=by rw[<-hP];exact Nat.mul_le_mul (by omega) (by omega)
    have hP3:(C:Int)*((M:Int)-1)=(P:Int):=by rw[<-hP,Int.natCast_mul,Int.natCast_sub (by omega)];rfl
    clear hb10 hh HBA hP;go_wp2_with (go_at_call 14;(with_reducible refine(Zo6 HB10.out HH.out HPX.out.M HPP.out HX.out.1 HX.out.2.1 HX.out.2.2).mono ?_);rintro e w11 ⟨rfl,hb11⟩;clear p0;have hp:=(HB10.out.below hb11).push #[.int .i64 (x+(P:Int)),.int .i64 (y+(C:Int)),.int .i64 (z+1)] 46 (by decide) (by decide) (by decide) (by decide);have n0:(w11.alloc (.cells #[.int .i64 (x+(P:Int)),.int .i64 (y+(C:Int)),.int .i64 (z+1)] 46)).cell? ⟨w11.heap.size,0,none⟩=some (.int .i64 (x+(P:Int))):=(hp.get 0 rfl).cell 0;have n1:(w11.alloc (.cells #[.int .i64 (x+(P:Int)),.int .i64 (y+(C:Int)),.int .i64 (z+1)] 46)).cell? ⟨w11.heap.size,1,none⟩=some (.int .i64 (y+(C:Int))):=(hp.get 0 rfl).cell 1;have n2:(w11.alloc (.cells #[.int .i64 (x+(P:Int)),.int .i64 (y+(C:Int)),.int .i64 (z+1)] 46)).cell? ⟨w11.heap.size,2,none⟩=some (.int .i64 (z+1)):=(hp.get 0 rfl).cell 2;have t0:=(hp.get 1 rfl).cell 0;have t1:=(hp.get 1 rfl).cell 1;have m0:=(hp.get 2 rfl).cell 0;have m1:=(hp.get 2 rfl).cell 1;have m2:=(hp.get 2 rfl).cell 2;have g0:=(hp.get 4 rfl).cell 0;have g1:=(hp.get 4 rfl).cell 1;have HB11:=Lib.hid hp;clear hb11 hp);go_ret;exact⟨rfl,HB3.out.trans (HB11.out.hn.bel.mono HB3.out.size)⟩
open Go.RowKit Go.ChangeShapes Go.WideShapes Go.ChangeAt Go.Deep
theorem healCounts_walk {H:Type} (w:World) (enc:TypeId×Value->H) (base:Nat) (v:Value) (d:DataW H) (ps:List MemPlace) (hok:Value.okWide Tryz.prog w .any base 23 v) (h:DataW.Trod enc Tryz.prog w 0 (fun _=>true) true 23 v d ps)
  (ring:Int) (_:(Lit.int .i64 ring).wf=true) (a1:Int) (_:(Lit.int .i64 a1).wf=true) (a2:Int) (_:(Lit.int .i64 a2).wf=true)
  (enc':TypeId×Value->H) (base':Nat) (v':Value) (d':DataW H) (ps':List MemPlace) (hok':Value.okWide Tryz.prog w .any base' 24 v') (h':DataW.Trod enc' Tryz.prog w 0 (fun _=>true) true 24 v' d' ps') (hw':∀n∈d'.weights Tryz.prog 24,n≤reachBytes):
  Calls Tryz.prog 3 #[v,.int .i64 ring,.int .i64 a1,.int .i64 a2,v'] w fun e w'=>e=.returned (.bool true)/\Below w.heap.size w w':=by
 obtain⟨m,c,s,rfl⟩:=Zns hok h;obtain⟨l,hv⟩:=Zly hok' h' hw';cases hm:mayIs m c s ring
 ·exact Zj9 m c s ring a1 a2 v' l w hv hm
 ·obtain⟨M,C,S,r,rfl,rfl,rfl,rfl,hg,h5,h6⟩:=Zvz hm
  exact Zkm M C S r a1 a2 v' l w hv hg h5 h6
end Go.Proofs.YtljjjpakcbcioaaGreat
