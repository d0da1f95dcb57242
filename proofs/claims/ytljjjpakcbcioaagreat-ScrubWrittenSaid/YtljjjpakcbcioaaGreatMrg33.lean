/- Several texts in one: RlC, Mrg32, RlB, Mrg33. -/
import Derived.Test.YtljjjpakcbcioaaGreatMrg8
import Derived.Test.YtljjjpakcbcioaaGreatMrg12
import Derived.Test.YtljjjpakcbcioaaGreatMrg28
import Derived.Test.YtljjjpakcbcioaaGreatMrg26
import Derived.Test.YtljjjpakcbcioaaGreatMrg19
import Derived.Test.YtljjjpakcbcioaaGreatRlA
import Derived.Test.YtljjjpakcbcioaaGreatMrg3
import Derived.Test.YtljjjpakcbcioaaGreatMrg31
import Derived.Test.YtljjjpakcbcioaaGreatMrg5
import Derived.ChangeArms
set_option linter.unusedVariables false
set_option maxRecDepth 100000
set_option maxHeartbeats 1000000
namespace Go.Proofs.YtljjjpakcbcioaaGreat
open Go.RowKit
def rszL (M R ring:Nat):List Nat:=List.replicate M (1+R)++ [2+ring]
theorem rszL_length (M R ring:Nat):(rszL M R ring).length=M+1:=by simp[rszL]
theorem rszL_at (M R ring m:Nat) (h:m<M):(rszL M R ring).getD m 0=1+R:=by
 unfold rszL;rw[List.getD_eq_getElem?_getD,List.getElem?_append_left (by simpa using h),List.getElem?_replicate,if_pos h];rfl
theorem rszL_last (M R ring:Nat):(rszL M R ring).getD M 0=2+ring:=by
 unfold rszL;rw[List.getD_eq_getElem?_getD,List.getElem?_append_right (by simp)];simp
def goneOf (M:Nat) (d:Int):Int:=if d<0\/(M:Int)≤d then -1 else d
end Go.Proofs.YtljjjpakcbcioaaGreat
namespace Go.Proofs.YtljjjpakcbcioaaGreat
open Go.RowKit
open Go.RowKit
theorem Fit.resize {s:BaySt} {G:Nat->Prop} {sz sz':Nat->Nat} (h:Fit s G sz) (he:∀k,k<s.n->sz k=sz' k):Fit s G sz':=⟨h.dark,h.trip,fun k hk hg=>by rw[<-he k hk];exact h.dev k hk hg⟩
structure Made0 (M C S ring:Nat) (s:BaySt):Prop where
 n:s.n=M+1
 fit:Fit s (fun _=>True) (fun j=>if j<M then 1+S*C else 2+ring)
 c0:s.cnt 0=0
 c1:s.cnt 1=(ring:Int)+1
 c2:s.cnt 2=1
 small:s.small (ring+1)
 sec:∀m z,m<M->s.sec m z=zsec
 aside:∀q,q%3≠0->s.pos q=none
def rBay (M R ring:Nat):BaySt:=freshBay (rszL M R ring) (rszL M R ring).length
theorem rBay_n (M R ring:Nat):(rBay M R ring).n=M+1:=rszL_length M R ring
theorem rsz_ok {M R ring:Nat} (hR:R≤4096) (hr:ring≤2048):∀x∈rszL M R ring,0<x/\x≤8192:=by
 intro x hx;unfold rszL at hx;rcases List.mem_append.1 hx with h|h
 ·rw[List.mem_replicate]at h
  omega
 ·simp at h
  omega
theorem rBay_fit {M C S ring:Nat} (hR:S*C≤4096) (hr:ring≤2048):Fit (rBay M (S*C) ring) (fun _=>True) (fun j=>if j<M then 1+S*C else 2+ring):=by
 refine(Fit.ofCalm (fresh_calm _ fun x hx=>(rsz_ok hR hr x hx).1)).resize fun k hk=> ?_
 have hk':k<M+1:=by have:=rBay_n M (S*C) ring;unfold rBay at this;omega
 by_cases h:k<M
 ·rw[if_pos h,rszL_at _ _ _ _ h]
 ·rw[if_neg h,show k=M by omega,rszL_last]
theorem formed_made {M C S ring:Nat} (hR:S*C≤4096) (hr5:5≤ring) (hr:ring≤2048):Made0 M C S ring (formed (rBay M (S*C) ring) M ring 1):=by
 have hf:=rBay_fit (M:=M) (C:=C) (S:=S) hR hr;have hn:=rBay_n M (S*C) ring;have hzM:(fun j=>if j<M then 1+S*C else 2+ring) M=2+ring:=if_neg (by omega);have hz:=zeroed_fit hf M (by omega) trivial ring (by show 2+ring≤(fun j=>if j<M then 1+S*C else 2+ring) M;rw[hzM];omega);obtain⟨f1,f2⟩:=put_fit hz.fit M 1 (recSec 3 1 1 (leN 0 4)) (by rw[hz.n',hn];omega) trivial (by show 1<(fun j=>if j<M then 1+S*C else 2+ring) M;rw[hzM];omega) (recSec_length _ _ _ _ (by simp[leN_length]));obtain⟨d1,d2⟩:=dried_fit f1 M (by rw[f2.n,hz.n',hn];omega) trivial;have hp:∀q,q≠M*3->(formed (rBay M (S*C) ring) M ring 1).pos q=(rBay M (S*C) ring).pos q:=fun q hq=>(d2.pos q hq).trans ((f2.pos q hq).trans (hz.pos q hq))
 refine⟨d2.n.trans (f2.n.trans (hz.n'.trans hn)),d1,?_,?_,?_,?_,fun m z hm=> ?_,fun q hq=>(hp q (by omega)).trans (if_neg fun e=>hq e.1)⟩
 ·show((zeroed _ M ring).put M 1 _|>.dried M).cnt 0=0
  rw[d2.c0,f2.c0,hz.c0];rfl
 ·show((zeroed _ M ring).put M 1 _|>.dried M).cnt 1=_
  rw[d2.c1,f2.c1,hz.c1];show(0:Int)+ring+1=_
  omega
 ·show((zeroed _ M ring).put M 1 _|>.dried M).cnt 2=_
  rw[d2.c2,f2.c2,hz.c2];rfl
 ·have:=d2.small _ (f2.small _ (hz.small 0 (fresh_small _ 0)))
  rwa [Nat.zero_add]at this
 ·rw[sec_of_pos (hp (m*3) (by omega))]
  exact fresh_sec _ m z (by rw[rszL_length];omega) (by rw[rszL_at _ _ _ _ hm];omega)
def BaySt.lose (s:BaySt) (k:Nat):BaySt:={s with pos:=fun q=>if q=k*3 then (s.pos q).map fun x=>⟨⟨x.d.last,[],true⟩,x.worn,x.left⟩else s.pos q}
structure Begun (M C S ring:Nat) (lazy:Bool) (down:Int) (R:RS):Prop where
 M':R.M=M
 C':R.C=C
 S':R.S=S
 size:R.size=ring
 lazy':R.lazy=lazy
 wait:R.wait= []
 fr:R.fr=fun j:Nat=>if (j:Int)=goneOf M down then 0 else -1
 c0:R.s.cnt 0=0
 c1:R.s.cnt 1=(ring:Int)+1
 c2:R.s.cnt 2=1
 next:R.next=1
 small:R.s.small (ring+1)
 used:R.used=0
 sure:R.sure=true
 all:goneOf M down= -1->Fit R.s (fun _=>True) R.szs
 sec0:∀m:Nat,m<M->(m:Int)≠goneOf M down->R.s.sec m 0=zsec
 lost:∀m:Nat,m<M->(m:Int)=goneOf M down->∃x,R.s.pos (m*3)=some x/\x.d.failed=true
 aside:∀q,q%3≠0->R.s.pos q=none
def zeroV:Nat->Nat->Sec:=fun _ _=>zsec
theorem zsec_length:zsec.length=128:=by simp[zsec]
theorem zeroV_at (m r i:Nat):(zeroV m r).getD i 0=0:=by
 show zsec.getD i 0=0
 unfold zsec;rw[List.getD_eq_getElem?_getD,List.getElem?_replicate];split<;>rfl
def RS.made (M C S ring:Nat) (lazy:Bool) (s:BaySt):RS:=⟨M,C,S,s,1,1,ring,0,0,true,lazy,false,fun _=> -1,[]⟩
def RS.less (M C S ring:Nat) (lazy:Bool) (s:BaySt) (k:Nat):RS:=⟨M,C,S,s.lose k,1,1,ring,0,0,true,lazy,false,fun j=>if j=k then 0 else -1,[]⟩
theorem good_none {M C S ring:Nat} {lazy:Bool} {s:BaySt} (hg:geoIs M C S=true) (h5:5≤ring) (h6:ring≤2048) (h:Made0 M C S ring s):Good (RS.made M C S ring lazy s) zeroV:=by
 refine⟨hg,h.n,(h.fit.sub fun _ _=>trivial),fun _ _ _ _=>zsec_length,fun r hr i hi=> ?_,fun r hr i j hi hj e _=> ?_,fun m r hm hr _ _=>h.sec m _ hm,⟨h5,h6,by show 0<ring;omega,Nat.zero_le _,by show 1≤4611686018427387904;omega,Nat.le_refl _,by show 1≤4611686018427387900;omega⟩,fun p hp=>(by cases hp),fun p hp=>(by cases hp),Nat.zero_le _⟩
 ·exact(xsum_congr fun m _=>zeroV_at m r i).trans (xsum_zero _)
 ·exfalso
  unfold RS.dn RS.made at e;simp at e
theorem begun_none {M C S ring:Nat} {lazy:Bool} {down:Int} {s:BaySt} (h:Made0 M C S ring s) (hd:goneOf M down= -1):Begun M C S ring lazy down (RS.made M C S ring lazy s):=
 ⟨rfl,rfl,rfl,rfl,rfl,rfl,by rw[hd];funext j;rw[if_neg (by omega)];rfl,h.c0,h.c1,h.c2,rfl,h.small,rfl,rfl,fun _=>h.fit,fun m hm _=>h.sec m 0 hm,fun m _ e=>by rw[hd]at e;omega,h.aside⟩
open Go.RowKit
def madeCells (m c s ring:Int) (lazy:Bool) (more:Int):Array Value:= #[.int .i64 m,.int .i64 c,.int .i64 s,.int .i64 ring,.bool lazy,.int .i64 more]
structure BgAt (W w:World) (T:Nat->Nat) (A:Adr) (R:RS):Prop where
 rw:RwIn w T A R none (.slice none 0 0) []
 old:∀q,q<W.heap.size->T q=0
 hi:W.heap.size≤A.q/\W.heap.size≤A.wp/\W.heap.size≤A.rp/\W.heap.size≤A.fg
 bel:Below W.heap.size W w
theorem BgAt.below {W w w':World} {T:Nat->Nat} {A:Adr} {R:RS} (h:BgAt W w T A R) (hb:Below w.heap.size w w'):BgAt W w' T A R:=⟨h.rw.below hb,h.old,h.hi,h.bel.trans (hb.mono h.bel.size)⟩
theorem BgAt.lat {W w:World} {T:Nat->Nat} {A:Adr} {R:RS} {V:Nat->Nat->Sec} (h:BgAt W w T A R) (hg:Good R V) (hw:R.wait= []):LAt W w T A R V:=by
 obtain⟨h1,h2,h3,h4⟩:=h.hi;refine⟨⟨none,_,_,h.rw⟩,hg,.inr hw,fun q hq=>⟨h.old q hq,?_⟩,h.bel⟩;rintro (e|e|e|e)<;>omega
theorem Made0.small' {M C S ring:Nat} {s:BaySt} (h:Made0 M C S ring s) (hr:ring≤2048):s.small 1000000:=h.small.mono (by omega)
end Go.Proofs.YtljjjpakcbcioaaGreat
namespace Go.Proofs.YtljjjpakcbcioaaGreat
open Go.RowKit
theorem putsFull {w:World} {a:Option Addr} {n c:Nat} {us:List (Int×List UInt8)} (h:PutSeg w (.slice a n c) us) (hl:0<us.length):∃b o,a=some ⟨b,o,none⟩/\b<w.heap.size/\∀j (h:j<us.length),w.cell? ⟨b,o+j*2,none⟩=some (.int .i64 us[j].1)/\∃x,w.cell? ⟨b,o+j*2+1,none⟩=some x/\Seg w x us[j].2:=by
 obtain⟨a',c',h1,h2,h3,h4⟩:=h;simp only [Value.slice.injEq]at h1;obtain⟨rfl,rfl,rfl⟩:=h1;rcases h4 with e|e
 ·rw[e]at hl
  exact absurd hl (by simp)
 ·exact e
theorem putsLen {w:World} {v:Value} {us:List (Int×List UInt8)} (h:PutSeg w v us) (j:Nat) (hj:j<us.length):(us[j]'hj).2.length≤140737488355328:=by
 obtain⟨a',c',h1,h2,h3,h4⟩:=h;have:=h3 _ (List.getElem_mem hj);omega
end Go.Proofs.YtljjjpakcbcioaaGreat
namespace Go.Proofs.YtljjjpakcbcioaaGreat
open Go.RowKit Go.ChangeShapes Go.WideShapes Go.ChangeAt Go.Deep
theorem seg_of_row {w:World} {B n:Nat} {v:Value} {l:List UInt8} (h:w.ownsRow B 5 1 v n (ucells l)):Seg w v l:=by
 have hl:l.length=n:=by
  have:=h.1;rw[ucells_length]at this;omega
 subst hl;exact seg_of_owns (base:=B) h
theorem same_eq {u v:Value} {l:List UInt8} {w:World} (hl:l.length≤9223372036854775807) (hu:Seg w u l) (hv:Seg w v l):
  Calls Tryz.prog 28 #[u,v] w fun e w'=>e=.returned (.bool true)/\Below w.heap.size w w':=
 (same_any u v l l w hl hl hu hv).mono fun e w' ⟨x1,x2⟩=>⟨by rw[x1];simp,x2⟩
theorem ByteRow.seg {W:World} {T:Nat->Nat} {v:Value} {l:List UInt8} (h:ByteRow W T v l):Seg W v l:=by
 obtain⟨⟨B,ho⟩,-⟩:=h;exact seg_of_row ho
structure RnAt (w0 W:World) (T:Nat->Nat) (A:Adr) (R:RS) (V:Nat->Nat->Sec) (M C S ring:Nat) (lazy:Bool) (a b:Nat):Prop where
 at':LAt w0 W T A R V
 bud:Bud R a b
 M:R.M=M
 C:R.C=C
 S:R.S=S
 size:R.size=ring
 lazy:R.lazy=lazy
theorem RnAt.geo {w0 W:World} {T:Nat->Nat} {A:Adr} {R:RS} {V:Nat->Nat->Sec} {M C S ring:Nat} {lazy:Bool} {a b:Nat} (h:RnAt w0 W T A R V M C S ring lazy a b) {R':RS} (s:Same R R'):R'.M=M/\R'.C=C/\R'.S=S/\R'.size=ring/\R'.lazy=lazy:=⟨s.M.trans h.M,s.C.trans h.C,s.S.trans h.S,s.size.trans h.size,s.lazy.trans h.lazy⟩
theorem Begun.bud {M C S ring:Nat} {lazy:Bool} {down:Int} {R:RS} (h:Begun M C S ring lazy down R) (hr:ring≤2048):Bud R 10000 3000:=by
 refine⟨by rw[h.c0];omega,by rw[h.c1];omega,by rw[h.c2];omega,by rw[h.next];omega,ring+1,h.small,by rw[h.wait];simp;omega⟩
theorem Begun.run {M C S ring:Nat} {lazy:Bool} {down:Int} {R:RS} {w0 W:World} {T:Nat->Nat} {A:Adr} {V:Nat->Nat->Sec} (h:Begun M C S ring lazy down R) (hr:ring≤2048) (hl:LAt w0 W T A R V):RnAt w0 W T A R V M C S ring lazy 10000 3000:=
 ⟨hl,h.bud hr,h.M',h.C',h.S',h.size,h.lazy'⟩
theorem RnAt.mk' {w0 W W':World} {T T':Nat->Nat} {A:Adr} {R R':RS} {V V':Nat->Nat->Sec} {M C S ring:Nat} {lazy:Bool} {a b a' b':Nat} (h:RnAt w0 W T A R V M C S ring lazy a b) (hl:LAt w0 W' T' A R' V') (hb:Bud R' a' b') (s:Same R R'):RnAt w0 W' T' A R' V' M C S ring lazy a' b':=by
 obtain⟨h1,h2,h3,h4,h5⟩:=h.geo s;exact⟨hl,hb,h1,h2,h3,h4,h5⟩
open Go.RowKit
open Go.RowKit
end Go.Proofs.YtljjjpakcbcioaaGreat
