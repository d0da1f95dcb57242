/- Several texts in one: BayM, RlE, RlF. -/
import Derived.Test.YtebmephdnjccjaaGreatMrg3
import Derived.Test.YtebmephdnjccjaaGreatMrg31
import Derived.Test.YtebmephdnjccjaaGreatRlC
import Derived.Test.YtebmephdnjccjaaGreatMrg26
set_option linter.unusedVariables false
set_option maxRecDepth 100000
set_option maxHeartbeats 16000000
/- A bay of disks:Trip,Wear,Fail. -/
namespace Go.Proofs.YtebmephdnjccjaaGreat
open Go.RowKit
theorem bay_fail_some {w:World} {T:Nat->Nat} {b:Nat} {s:BaySt} {gs:Nat} {ptr:Nat->Option Nat} {tg dp:Nat->Nat} (h:BayIn w T b s gs ptr tg dp) (k:Nat) (hk:k<s.n) (x:Dev) (hx:s.pos (k*3)=some x) (hm:x.d.cache.length≤1000000):
  Calls Tryz.prog 49 #[.pointer (some ⟨b,0,none⟩),.int .i64 k] w fun e w'=>e=.returned (.int .u16 0)/\BayIn w' T b {s with pos:=fun q=>if q=k*3 then some ⟨⟨x.d.last,[],true⟩,x.worn,x.left⟩else s.pos q} gs ptr tg dp/\Chg (fun q=>T q≠0) w w':=by
 obtain⟨dv,hp,hD⟩:=h.some' (k*3) (by omega) x hx;have hth:=Lib.hid (bay_there h k dv hk hp);have d0:w.cell? ⟨dv,0,none⟩=some (.pointer (some ⟨dp (k*3),0,none⟩)):=hD.dev.cell 0;have HF:=Lib.hid (disk_fail T (tg (k*3)) (dp (k*3)) x.d w hD.disk hm);have HD:=Lib.hid hD;have HB:=Lib.hid h;have HX:=Lib.hid hx;have HP:=Lib.hid hp;have HK:=Lib.hid hk;clear h hD hx hp hk hm;generalize hg:dp (k*3)=gd at*;go_enter Tryz.func49,Tryz.ntmps49
 go_wp2_with (first
  |(go_at_call 67;(with_reducible refine hth.out.mono ?_);rintro e w1 ⟨rfl,hw⟩;obtain rfl:w=w1:=hw.symm)
  |(go_at_call 93;(with_reducible refine HF.out.mono ?_);rintro e w2 ⟨rfl,hdk,hch⟩;have HDK:=Lib.hid hdk;have HCH:=Lib.hid hch;clear hdk hch d0))
 go_ret;have ht:=HD.out.tag;have h2:=HD.out.two;subst hg;obtain⟨q1,q2⟩:=HB.out.used (by have:=HK.out;omega) HX.out HP.out (x':=⟨⟨x.d.last,[],true⟩,x.worn,x.left⟩) ⟨HD.out.dev.mod HCH.out (fun e=>by omega),ht,h2,HDK.out,HD.out.lo,HD.out.hi⟩ (HCH.out.mono fun q hq=>.inl hq);exact⟨rfl,q1,q2⟩
def BaySt.why (s:BaySt) (k:Int):Int:=if 0≤k/\k<(s.n:Int)then 51 else 1
theorem BaySt.why_is (s:BaySt) (k:Int):s.why k=51\/s.why k=1:=by unfold BaySt.why;split<;>simp
theorem there_none {w:World} {T:Nat->Nat} {b:Nat} {s:BaySt} {gs:Nat} {ptr:Nat->Option Nat} {tg dp:Nat->Nat} (h:BayIn w T b s gs ptr tg dp) (k:Int) (hk:¬s.is k\/(s.is k/\s.pos (k.toNat*3)=none)):
  Calls Tryz.prog 67 #[.pointer (some ⟨b,0,none⟩),.int .i64 k] w fun e w'=>e=.returned (.tuple #[.pointer none,.int .u16 (s.why k)])/\w'=w:=by
 rcases hk with hk|⟨hk,hp⟩
 ·rw[show s.why k=1 from if_neg hk]
  exact bay_there_none h k hk
 ·rw[show s.why k=51 from if_pos hk]
  have hk2:0≤k/\k<(s.n:Int):=hk;obtain⟨j,rfl⟩:=Int.eq_ofNat_of_zero_le hk2.1;rw[Int.toNat_natCast]at hp;exact bay_there_empty h j (by omega) (h.none' (j*3) (by omega) hp)
theorem bay_fail_none {w:World} {T:Nat->Nat} {b:Nat} {s:BaySt} {gs:Nat} {ptr:Nat->Option Nat} {tg dp:Nat->Nat} (h:BayIn w T b s gs ptr tg dp) (k:Int) (hk:¬s.is k\/(s.is k/\s.pos (k.toNat*3)=none)):
  Calls Tryz.prog 49 #[.pointer (some ⟨b,0,none⟩),.int .i64 k] w fun e w'=>e=.returned (.int .u16 (s.why k))/\w'=w:=by
 have hth:=Lib.hid (there_none h k hk);have hne:s.why k=51\/s.why k=1:=s.why_is k;clear h hk;generalize s.why k=z at*;rcases hne with rfl|rfl
 all_goals
  go_enter Tryz.func49,Tryz.ntmps49
  go_wp2_with (first
   |(go_at_call 67;(with_reducible refine hth.out.mono ?_);rintro e w1 ⟨rfl,hw⟩;obtain rfl:w=w1:=hw.symm))
  go_ret
  exact⟨rfl,rfl⟩
theorem bay_wear_none {w:World} {T:Nat->Nat} {b:Nat} {s:BaySt} {gs:Nat} {ptr:Nat->Option Nat} {tg dp:Nat->Nat} (h:BayIn w T b s gs ptr tg dp) (k n:Int) (hn:0≤n) (hk:¬s.is k\/(s.is k/\s.pos (k.toNat*3)=none)):
  Calls Tryz.prog 38 #[.pointer (some ⟨b,0,none⟩),.int .i64 k,.int .i64 n] w fun e w'=>e=.returned (.int .u16 (s.why k))/\w'=w:=by
 have hth:=Lib.hid (there_none h k hk);have hne:s.why k=51\/s.why k=1:=s.why_is k;clear h hk;generalize s.why k=z at*;rcases hne with rfl|rfl
 all_goals
  go_enter Tryz.func38,Tryz.ntmps38
  go_wp2_with (first
   |(go_at_call 67;(with_reducible refine hth.out.mono ?_);rintro e w1 ⟨rfl,hw⟩;obtain rfl:w=w1:=hw.symm))
  go_ret
  exact⟨rfl,rfl⟩
theorem bay_wear_neg (w:World) (b:Nat) (k n:Int) (hn:n<0):
  Calls Tryz.prog 38 #[.pointer (some ⟨b,0,none⟩),.int .i64 k,.int .i64 n] w fun e w'=>e=.returned (.int .u16 1)/\w'=w:=by
 go_enter Tryz.func38,Tryz.ntmps38;go_wp2;go_ret;exact⟨rfl,rfl⟩
theorem bay_wear_some {w:World} {T:Nat->Nat} {b:Nat} {s:BaySt} {gs:Nat} {ptr:Nat->Option Nat} {tg dp:Nat->Nat} (h:BayIn w T b s gs ptr tg dp) (k:Nat) (hk:k<s.n) (x:Dev) (hx:s.pos (k*3)=some x) (n:Int) (hn:0≤n) (hn2:n≤9223372036854775807):
  Calls Tryz.prog 38 #[.pointer (some ⟨b,0,none⟩),.int .i64 k,.int .i64 n] w fun e w'=>e=.returned (.int .u16 0)/\BayIn w' T b {s with pos:=fun q=>if q=k*3 then some ⟨x.d,true,n⟩else s.pos q} gs ptr tg dp/\Chg (fun q=>T q≠0) w w':=by
 obtain⟨dv,hp,hD⟩:=h.some' (k*3) (by omega) x hx;have hth:=Lib.hid (bay_there h k dv hk hp);have c1:w.cell? ⟨dv,1,none⟩=some (.bool x.worn):=hD.dev.cell 1;have c2:w.cell? ⟨dv,2,none⟩=some (.int .i64 x.left):=hD.dev.cell 2;have f1:=hD.dev.free 1;have f2:=hD.dev.free 2;have HD:=Lib.hid hD;have HB:=Lib.hid h;have HX:=Lib.hid hx;have HP:=Lib.hid hp;have HK:=Lib.hid hk;clear h hD hx hp hk;go_enter Tryz.func38,Tryz.ntmps38
 go_wp2_with (first
  |(go_at_call 67;(with_reducible refine hth.out.mono ?_);rintro e w1 ⟨rfl,hw⟩;obtain rfl:w=w1:=hw.symm))
 go_ret;have hc1:Chg (fun q=>q=dv) w (w.setCell ⟨dv,1,none⟩ (.bool true)):=Chg.setCell (S:=fun q=>q=dv) (Chg.refl _ _) ⟨dv,1,none⟩ (.inl rfl) _;have hc2:Chg (fun q=>q=dv) w ((w.setCell ⟨dv,1,none⟩ (.bool true)).setCell ⟨dv,2,none⟩ (.int .i64 n)):=hc1.setCell ⟨dv,2,none⟩ (.inl rfl) _;obtain⟨q1,q2⟩:=HB.out.used (by have:=HK.out;omega) HX.out HP.out (HD.out.turn true n hc2 ((HD.out.dev.set 1 (.bool true)).set 2 (.int .i64 n)) hn hn2) (hc2.mono fun q hq=>.inr hq);exact⟨rfl,q1,q2⟩
open Go.RowKit
theorem Fit.resize {s:BaySt} {G:Nat->Prop} {sz sz':Nat->Nat} (h:Fit s G sz) (he:∀k,k<s.n->sz k=sz' k):Fit s G sz':=⟨h.dark,h.trip,fun k hk hg=>by rw[<-he k hk];exact h.dev k hk hg⟩
structure Made0 (M C S ring:Nat) (s:BaySt):Prop where
 n:s.n=M+1
 fit:Fit s (fun _=>True) (fun j=>if j<M then 1+S*C else 2+ring)
 c0:s.cnt 0=0
 c1:s.cnt 1=(ring:Int)+1
 c2:s.cnt 2=1
 small:s.small (ring+1)
 sec:∀m z,m<M->s.sec m z=zsec
def rBay (M R ring:Nat):BaySt:=freshBay (rszL M R ring) (rszL M R ring).length
theorem rBay_n (M R ring:Nat):(rBay M R ring).n=M+1:=rszL_length M R ring
theorem rsz_ok {M R ring:Nat} (hR:R≤4096) (hr:ring≤2048):∀x∈rszL M R ring,0<x/\x≤8192:=by
 intro x hx;unfold rszL at hx;rcases List.mem_append.1 hx with h|h
 ·rw[List.mem_replicate]at h
  omega
 ·simp at h
  omega
theorem rBay_fit {M C S ring:Nat} (hR:S*C≤4096) (hr:ring≤2048):Fit (rBay M (S*C) ring) (fun _=>True) (fun j=>if j<M then 1+S*C else 2+ring):=by
 refine(Fit.ofCalm (fresh_calm _ fun x hx=>(rsz_ok hR hr x hx).1)).resize fun k hk=> ?_
 have hk':k<M+1:=by have:=rBay_n M (S*C) ring;unfold rBay at this;omega
 by_cases h:k<M
 ·rw[if_pos h,rszL_at _ _ _ _ h]
 ·rw[if_neg h,show k=M by omega,rszL_last]
theorem formed_made {M C S ring:Nat} (hR:S*C≤4096) (hr5:5≤ring) (hr:ring≤2048):Made0 M C S ring (formed (rBay M (S*C) ring) M ring 1):=by
 have hf:=rBay_fit (M:=M) (C:=C) (S:=S) hR hr;have hn:=rBay_n M (S*C) ring;have hzM:(fun j=>if j<M then 1+S*C else 2+ring) M=2+ring:=if_neg (by omega);have hz:=zeroed_fit hf M (by omega) trivial ring (by show 2+ring≤(fun j=>if j<M then 1+S*C else 2+ring) M;rw[hzM];omega);obtain⟨f1,f2⟩:=put_fit hz.fit M 1 (recSec 3 1 1 (leN 0 4)) (by rw[hz.n',hn];omega) trivial (by show 1<(fun j=>if j<M then 1+S*C else 2+ring) M;rw[hzM];omega) (recSec_length _ _ _ _ (by simp[leN_length]));obtain⟨d1,d2⟩:=dried_fit f1 M (by rw[f2.n,hz.n',hn];omega) trivial;have hp:∀q,q≠M*3->(formed (rBay M (S*C) ring) M ring 1).pos q=(rBay M (S*C) ring).pos q:=fun q hq=>(d2.pos q hq).trans ((f2.pos q hq).trans (hz.pos q hq))
 refine⟨d2.n.trans (f2.n.trans (hz.n'.trans hn)),d1,?_,?_,?_,?_,fun m z hm=> ?_⟩
 ·show((zeroed _ M ring).put M 1 _|>.dried M).cnt 0=0
  rw[d2.c0,f2.c0,hz.c0];rfl
 ·show((zeroed _ M ring).put M 1 _|>.dried M).cnt 1=_
  rw[d2.c1,f2.c1,hz.c1];show(0:Int)+ring+1=_
  omega
 ·show((zeroed _ M ring).put M 1 _|>.dried M).cnt 2=_
  rw[d2.c2,f2.c2,hz.c2];rfl
 ·have:=d2.small _ (f2.small _ (hz.small 0 (fresh_small _ 0)))
  rwa [Nat.zero_add]at this
 ·rw[sec_of_pos (hp (m*3) (by omega))]
  exact fresh_sec _ m z (by rw[rszL_length];omega) (by rw[rszL_at _ _ _ _ hm];omega)
def BaySt.lose (s:BaySt) (k:Nat):BaySt:={s with pos:=fun q=>if q=k*3 then (s.pos q).map fun x=>⟨⟨x.d.last,[],true⟩,x.worn,x.left⟩else s.pos q}
structure Begun (M C S ring:Nat) (lazy:Bool) (down:Int) (R:RS):Prop where
 M':R.M=M
 C':R.C=C
 S':R.S=S
 size:R.size=ring
 lazy':R.lazy=lazy
 wait:R.wait= []
 fr:R.fr=fun j:Nat=>if (j:Int)=goneOf M down then 0 else -1
 c0:R.s.cnt 0=0
 c1:R.s.cnt 1=(ring:Int)+1
 c2:R.s.cnt 2=1
 next:R.next=1
 small:R.s.small (ring+1)
 used:R.used=0
 sure:R.sure=true
 all:goneOf M down= -1->Fit R.s (fun _=>True) R.szs
 sec0:∀m:Nat,m<M->(m:Int)≠goneOf M down->R.s.sec m 0=zsec
 lost:∀m:Nat,m<M->(m:Int)=goneOf M down->∃x,R.s.pos (m*3)=some x/\x.d.failed=true
def zeroV:Nat->Nat->Sec:=fun _ _=>zsec
theorem zsec_length:zsec.length=128:=by simp[zsec]
theorem zeroV_at (m r i:Nat):(zeroV m r).getD i 0=0:=by
 show zsec.getD i 0=0
 unfold zsec;rw[List.getD_eq_getElem?_getD,List.getElem?_replicate];split<;>rfl
def RS.made (M C S ring:Nat) (lazy:Bool) (s:BaySt):RS:=⟨M,C,S,s,1,1,ring,0,0,true,lazy,false,fun _=> -1,[]⟩
def RS.less (M C S ring:Nat) (lazy:Bool) (s:BaySt) (k:Nat):RS:=⟨M,C,S,s.lose k,1,1,ring,0,0,true,lazy,false,fun j=>if j=k then 0 else -1,[]⟩
theorem goneOf_cases (M:Nat) (d:Int):(goneOf M d= -1/\(d<0\/(M:Int)≤d))\/∃k:Nat,k<M/\d=k/\goneOf M d=k:=by
 unfold goneOf;by_cases h:d<0\/(M:Int)≤d
 ·left;exact⟨if_pos h,h⟩
 ·right
  obtain⟨k,hk⟩:=Int.eq_ofNat_of_zero_le (show 0≤d by omega);exact⟨k,by omega,hk,by rw[if_neg h,hk]⟩
theorem good_none {M C S ring:Nat} {lazy:Bool} {s:BaySt} (hg:geoIs M C S=true) (h5:5≤ring) (h6:ring≤2048) (h:Made0 M C S ring s):Good (RS.made M C S ring lazy s) zeroV:=by
 refine⟨hg,h.n,(h.fit.sub fun _ _=>trivial),fun _ _ _ _=>zsec_length,fun r hr i hi=> ?_,fun r hr i j hi hj e _=> ?_,fun m r hm hr _ _=>h.sec m _ hm,⟨h5,h6,by show 0<ring;omega,Nat.zero_le _,by show 1≤4611686018427387904;omega,Nat.le_refl _,by show 1≤4611686018427387900;omega⟩,fun p hp=>(by cases hp),fun p hp=>(by cases hp),Nat.zero_le _⟩
 ·exact(xsum_congr fun m _=>zeroV_at m r i).trans (xsum_zero _)
 ·exfalso
  unfold RS.dn RS.made at e;simp at e
theorem begun_none {M C S ring:Nat} {lazy:Bool} {down:Int} {s:BaySt} (h:Made0 M C S ring s) (hd:goneOf M down= -1):Begun M C S ring lazy down (RS.made M C S ring lazy s):=
 ⟨rfl,rfl,rfl,rfl,rfl,rfl,by rw[hd];funext j;rw[if_neg (by omega)];rfl,h.c0,h.c1,h.c2,rfl,h.small,rfl,rfl,fun _=>h.fit,fun m hm _=>h.sec m 0 hm,fun m _ e=>by rw[hd]at e;omega⟩
theorem lost_some {s:BaySt} {k:Nat} {x:Dev} (hx:s.pos (k*3)=some x):({s with pos:=fun q=>if q=k*3 then some ⟨⟨x.d.last,[],true⟩,x.worn,x.left⟩else s.pos q}:BaySt)=s.lose k:=by
 unfold BaySt.lose;congr 1;funext q;by_cases h:q=k*3
 ·rw[if_pos h,if_pos h,h,hx];rfl
 ·rw[if_neg h,if_neg h]
theorem dn_marked {M C S ring:Nat} {lazy:Bool} {s:BaySt} {k m r:Nat}:(RS.less M C S ring lazy s k).dn m r=decide (m=k):=by
 unfold RS.dn RS.less;by_cases h:m=k
 ·simp[h]
 ·simp[h]
theorem good_gone {M C S ring:Nat} {lazy:Bool} {s:BaySt} {k:Nat} (hg:geoIs M C S=true) (h5:5≤ring) (h6:ring≤2048) (h:Made0 M C S ring s) (hk:k<M):Good (RS.less M C S ring lazy s k) zeroV:=by
 have hG:∀j,(RS.less M C S ring lazy s k).G j->j≠k:=fun j hj e=>by
  rcases hj with hj|⟨-,r,-,hd⟩
  ·have:j=M:=hj
   omega
  ·rw[dn_marked,decide_eq_false_iff_not]at hd
   exact hd e
 have hpos:∀j,j≠k->(s.lose k).pos (j*3)=s.pos (j*3):=fun j hj=>if_neg (by omega)
 refine⟨hg,h.n,⟨h.fit.dark,h.fit.trip,fun j hj hgj=> ?_⟩,fun _ _ _ _=>zsec_length,fun r hr i hi=> ?_,fun r hr i j hi hj e1 e2=> ?_,fun m r hm hr _ hd=> ?_,⟨h5,h6,by show 0<ring;omega,Nat.zero_le _,by show 1≤4611686018427387904;omega,Nat.le_refl _,by show 1≤4611686018427387900;omega⟩,fun p hp=>(by cases hp),fun p hp=>(by cases hp),Nat.zero_le _⟩
 ·obtain⟨x,hx,hc⟩:=h.fit.dev j hj trivial
  exact⟨x,by show(s.lose k).pos (j*3)=_;rw[hpos j (hG j hgj)];exact hx,hc⟩
 ·exact(xsum_congr fun m _=>zeroV_at m r i).trans (xsum_zero _)
 ·have e1':(RS.less M C S ring lazy s k).dn i r=true:=e1
  have e2':(RS.less M C S ring lazy s k).dn j r=true:=e2;rw[dn_marked,decide_eq_true_eq]at e1' e2';rw[e1',e2']
 ·rw[dn_marked,decide_eq_false_iff_not]at hd
  show(s.lose k).sec m (1+r)=zsec
  rw[sec_of_pos (hpos m hd)];exact h.sec m _ hm
theorem begun_gone {M C S ring:Nat} {lazy:Bool} {s:BaySt} {k:Nat} (h:Made0 M C S ring s) (hd:goneOf M (k:Int)=k):Begun M C S ring lazy (k:Int) (RS.less M C S ring lazy s k):=by
 refine⟨rfl,rfl,rfl,rfl,rfl,rfl,?_,h.c0,h.c1,h.c2,rfl,fun i hi x hx=> ?_,rfl,rfl,fun e=>by rw[hd]at e;omega,fun m hm e=> ?_,fun m hm e=> ?_⟩
 ·rw[hd]
  funext j;show(if j=k then (0:Int)else -1)=_
  by_cases e:j=k
  ·rw[if_pos e,if_pos (by exact_mod_cast e)]
  ·rw[if_neg e,if_neg (by exact_mod_cast e)]
 ·change (if i=k*3 then (s.pos i).map (fun x=>(⟨⟨x.d.last,[],true⟩,x.worn,x.left⟩:Dev))else s.pos i)=some x at hx
  by_cases e:i=k*3
  ·rw[if_pos e]at hx
   cases hp:s.pos i with
   |none=>rw[hp]at hx;cases hx
   |some y=>
    rw[hp]at hx;simp only [Option.map_some,Option.some.injEq]at hx;subst hx;exact Nat.zero_le _
  ·rw[if_neg e]at hx
   exact h.small i hi x hx
 ·rw[hd]at e
  have e1:(s.lose k).pos (m*3)=s.pos (m*3):=if_neg (by omega);exact(sec_of_pos e1 0).trans (h.sec m 0 hm)
 ·rw[hd]at e
  have e1:m=k:=by omega
  subst e1;obtain⟨x,hx,-⟩:=h.fit.dev m (by rw[h.n];omega) trivial;refine⟨⟨⟨x.d.last,[],true⟩,x.worn,x.left⟩,?_,rfl⟩;show(if m*3=m*3 then (s.pos (m*3)).map (fun x=>(⟨⟨x.d.last,[],true⟩,x.worn,x.left⟩:Dev))else s.pos (m*3))=_
  rw[if_pos rfl,hx];rfl
open Go.RowKit
def madeCells (m c s ring:Int) (lazy:Bool) (more:Int):Array Value:= #[.int .i64 m,.int .i64 c,.int .i64 s,.int .i64 ring,.bool lazy,.int .i64 more]
theorem r14_begun_no (m c s ring:Int) (lazy:Bool) (more down:Int) (W:World) (h:mayIs m c s ring=false):
  Calls Tryz.prog 11 #[madeVal m c s ring lazy more,.int .i64 down] W fun e w'=>e=.returned (.tuple #[.pointer none,.pointer none,.pointer none])/\Below W.heap.size W w':=by
 unfold madeVal;unfold mayIs at h;have hb0:Below W.heap.size W (W.alloc (.cells #[.int .i64 m,.int .i64 c,.int .i64 s,.int .i64 ring,.bool lazy,.int .i64 more] 25)):=(Below.refl _ _).alloc (Nat.le_refl _) _;have ha0:At (W.alloc (.cells #[.int .i64 m,.int .i64 c,.int .i64 s,.int .i64 ring,.bool lazy,.int .i64 more] 25)) W.heap.size #[.int .i64 m,.int .i64 c,.int .i64 s,.int .i64 ring,.bool lazy,.int .i64 more] 25:=At.new _ _ _;have HB0:=Lib.hid hb0;have HA0:=Lib.hid ha0;have hck:=Lib.hid (fun w=>ref_check m c s w);unfold geoCode geo at hck;by_cases hg:geoIs m c s=true
 ·rw[hg]at hck
  simp only [if_true]at hck;have hout:ring<5\/2048<ring:=by
   by_cases h7:5≤ring/\ring≤2048
   ·rw[hg,decide_eq_true h7.1,decide_eq_true h7.2]at h
    cases h
   ·omega
  clear h hb0 ha0;by_cases h1:ring<5
  ·go_enter Tryz.func11,Tryz.ntmps11
   go_wp2_with (first
    |(go_at_call 41;(with_reducible refine(hck.out _).mono ?_);rintro e w1 ⟨rfl,hb1⟩;have HB1:=Lib.hid hb1;have ha1:=HA0.out.below hb1 HA0.out.lt;have c3:=ha1.cell 3;have hlt1:=ha1.lt;clear hb1 ha1))
   go_ret3;exact⟨rfl,below_then HB0.out HB1.out⟩
  ·have h2:decide ((2048:Int)<ring)=true:=decide_eq_true (by omega)
   go_enter Tryz.func11,Tryz.ntmps11
   go_wp2_with (first
    |(go_at_call 41;(with_reducible refine(hck.out _).mono ?_);rintro e w1 ⟨rfl,hb1⟩;have HB1:=Lib.hid hb1;have ha1:=HA0.out.below hb1 HA0.out.lt;have c3:=ha1.cell 3;have hlt1:=ha1.lt;clear hb1 ha1))
   go_ret3;exact⟨rfl,below_then HB0.out HB1.out⟩
 ·rw[if_neg hg]at hck
  clear h hb0 ha0;go_enter Tryz.func11,Tryz.ntmps11
  go_wp2_with (first
   |(go_at_call 41;(with_reducible refine(hck.out _).mono ?_);rintro e w1 ⟨rfl,hb1⟩;have HB1:=Lib.hid hb1;have ha1:=HA0.out.below hb1 HA0.out.lt;have c3:=ha1.cell 3;have hlt1:=ha1.lt;clear hb1 ha1))
  go_ret3;exact⟨rfl,below_then HB0.out HB1.out⟩
structure BgAt (W w:World) (T:Nat->Nat) (A:Adr) (R:RS):Prop where
 rw:RwIn w T A R none (.slice none 0 0) []
 old:∀q,q<W.heap.size->T q=0
 hi:W.heap.size≤A.q/\W.heap.size≤A.wp/\W.heap.size≤A.rp/\W.heap.size≤A.fg
 bel:Below W.heap.size W w
theorem BgAt.below {W w w':World} {T:Nat->Nat} {A:Adr} {R:RS} (h:BgAt W w T A R) (hb:Below w.heap.size w w'):BgAt W w' T A R:=⟨h.rw.below hb,h.old,h.hi,h.bel.trans (hb.mono h.bel.size)⟩
theorem BgAt.lat {W w:World} {T:Nat->Nat} {A:Adr} {R:RS} {V:Nat->Nat->Sec} (h:BgAt W w T A R) (hg:Good R V) (hw:R.wait= []):LAt W w T A R V:=by
 obtain⟨h1,h2,h3,h4⟩:=h.hi;refine⟨⟨none,_,_,h.rw⟩,hg,.inr hw,fun q hq=>⟨h.old q hq,?_⟩,h.bel⟩;rintro (e|e|e|e)<;>omega
theorem Made0.small' {M C S ring:Nat} {s:BaySt} (h:Made0 M C S ring s) (hr:ring≤2048):s.small 1000000:=h.small.mono (by omega)
theorem BgAt.ofBay {W w w':World} {T:Nat->Nat} {A:Adr} {R:RS} {s':BaySt} (h:BgAt W w T A R) (hb:BayAt w' T A.b s') (hc:Chg (fun q=>T q≠0) w w'):BgAt W w' T A {R with s:=s'}:=
 ⟨h.rw.turn hb (fun _ _=>rfl) hc,h.old,h.hi,h.bel.trans (hc.below fun q hq=>⟨Nat.lt_of_lt_of_le hq h.bel.size,fun e=>e (h.old q hq)⟩)⟩
theorem begun_marks {W:World} {M C S ring:Nat} {lazy:Bool} {down:Int} {s:BaySt} (hg:geoIs M C S=true) (h5:5≤ring) (h6:ring≤2048) (hm:Made0 M C S ring s):∃R1 R2:RS,
  (∀w T A,BgAt W w T A (RS.made M C S ring lazy s)->Calls Tryz.prog 49 #[.pointer (some ⟨A.b,0,none⟩),.int .i64 (goneOf M down)] w fun e w'=>(∃c,e=.returned (.int .u16 c))/\BgAt W w' T A R1)/\
  (∀w T A,BgAt W w T A R1->Calls Tryz.prog 32 #[.pointer (some ⟨A.q,0,none⟩),.int .i64 down,.bool true,.int .i64 0] w fun e w'=>e=.returned (.tuple #[])/\BgAt W w' T A R2)/\Good R2 zeroV/\Begun M C S ring lazy down R2:=by
 rcases goneOf_cases M down with ⟨hd,hdo⟩|⟨k,hk,rfl,hd⟩
 ·refine⟨RS.made M C S ring lazy s,RS.made M C S ring lazy s,fun w T A h=> ?_,fun w T A h=> ?_,good_none hg h5 h6 hm,begun_none hm hd⟩
  ·rw[hd]
   obtain⟨gs,ptr,tg,dp,hin⟩:=h.rw.bay;refine(bay_fail_none hin (-1) (.inl (fun e=> ?_))).mono ?_
   ·have:(0:Int)≤ -1:=e.1
    omega
   ·rintro e w' ⟨rfl,rfl⟩
    exact⟨⟨_,rfl⟩,h⟩
  ·refine(rows_mark_no h.rw.rw down true 0 hdo).mono ?_
   rintro e w' ⟨rfl,rfl⟩;exact⟨rfl,h⟩
 ·refine⟨{RS.made M C S ring lazy s with s:=s.lose k},RS.less M C S ring lazy s k,fun w T A h=> ?_,fun w T A h=> ?_,good_gone hg h5 h6 hm hk,begun_gone hm hd⟩
  ·rw[hd]
   have hkn:k<s.n:=by rw[hm.n];omega
   obtain⟨x,hx,-⟩:=hm.fit.dev k hkn trivial;obtain⟨gs,ptr,tg,dp,hin⟩:=h.rw.bay;refine(bay_fail_some hin k hkn x hx (hm.small' h6 (k*3) (by have:=hm.n;show k*3<3*s.n;omega) x hx)).mono ?_;rintro e w' ⟨rfl,h1,h2⟩;have h1':BayAt w' T A.b (s.lose k):=by
    rw[<-lost_some hx];exact⟨gs,ptr,tg,dp,h1⟩
   exact⟨⟨_,rfl⟩,h.ofBay h1' h2⟩
  ·refine(rows_mark h.rw k true (by exact hk)).mono ?_
   rintro e w' ⟨rfl,h1,h2⟩;refine⟨rfl,h1,h.old,h.hi,h.bel.trans (h2.below fun q hq=>⟨Nat.lt_of_lt_of_le hq h.bel.size,?_⟩)⟩;obtain⟨i1,i2,i3,i4⟩:=h.hi;rintro (e|e|e|e)<;>omega
theorem r14_begun (M C S ring:Nat) (lazy:Bool) (more down:Int) (W:World) (hg:geoIs M C S=true) (h5:5≤ring) (h6:ring≤2048):
  Calls Tryz.prog 11 #[madeVal M C S ring lazy more,.int .i64 down] W fun e w'=>∃T A R,e=.returned (.tuple #[.pointer (some ⟨A.b,0,none⟩),.pointer (some ⟨A.q,0,none⟩),.pointer (some ⟨A.wp,0,none⟩)])/\LAt W w' T A R zeroV/\Begun M C S ring lazy down R:=by
 obtain⟨g1,g2,g3,g4⟩:=geo_pos hg;have hmade:=formed_made (M:=M) (C:=C) (S:=S) g4 h5 h6;have HMA:=Lib.hid hmade;have hb0:Below W.heap.size W (W.alloc (.cells #[.int .i64 M,.int .i64 C,.int .i64 S,.int .i64 ring,.bool lazy,.int .i64 more] 25)):=(Below.refl _ _).alloc (Nat.le_refl _) _;have ha0:At (W.alloc (.cells #[.int .i64 M,.int .i64 C,.int .i64 S,.int .i64 ring,.bool lazy,.int .i64 more] 25)) W.heap.size #[.int .i64 M,.int .i64 C,.int .i64 S,.int .i64 ring,.bool lazy,.int .i64 more] 25:=At.new _ _ _;have HB0:=Lib.hid hb0;have HA0:=Lib.hid ha0;have HCK:Hid (∀w,Calls Tryz.prog 41 #[.agg #[.int .i64 M,.int .i64 C,.int .i64 S]] w fun e w'=>e=.returned (.int .i64 0)/\Below w.heap.size w w'):=fun w=>by
  have:=ref_check M C S w;unfold geoCode at this;rw[if_pos hg]at this;exact this
 have HSZ:Hid (∀w,Calls Tryz.prog 44 #[.agg #[.int .i64 M,.int .i64 C,.int .i64 S],.int .i64 ring] w fun e w'=>∃v,e=.returned v/\w'.ownsRow (w.heap.size+1) 3 1 v (rszL M (S*C) ring).length (kcells (rszL M (S*C) ring))/\Below w.heap.size w w'):=fun w=>r14_sizes M C S ring w hg h6
 have HBN:Hid (∀w v B,w.ownsRow B 3 1 v (rszL M (S*C) ring).length (kcells (rszL M (S*C) ring))->Calls Tryz.prog 43 #[v] w fun e w'=>∃b,e=.returned (.tuple #[.pointer (some ⟨b,0,none⟩),.int .u16 0])/\BayMade w (rBay M (S*C) ring) b w'):=fun w v B hv=>bay_new (rszL M (S*C) ring) v B w hv (by rw[rszL_length];omega) (by rw[rszL_length];omega) (fun x hx=>(rsz_ok g4 h6 x hx).2)
 have HFO:Hid (∀w T b,BayAt w T b (rBay M (S*C) ring)->Calls Tryz.prog 45 #[.pointer (some ⟨b,0,none⟩),.int .i64 M,.int .i64 ring,.int .u64 1] w fun e w'=>∃wp rp T',e=.returned (.tuple #[.pointer (some ⟨wp,0,none⟩),.int .u16 0])/\w.heap.size≤wp/\w.heap.size≤rp/\T' wp=0/\T' rp=0/\
   BayAt w' T' b (formed (rBay M (S*C) ring) M ring 1)/\(∀q,q<w.heap.size->T' q=T q)/\Chg (fun q=>T q≠0) w w'/\At w' wp (walCells b M 1 rp 1 true none 0) 110/\RingAt w' rp ring 0 0):=fun w T b hb=>by
  refine wal_format hb M ring 1 (rBay_fit g4 h6) (by rw[rBay_n];omega) trivial ?_ h5 h6 (by omega) ?_ ?_ (fresh_small _ _)
  ·show 2+ring≤(fun j=>if j<M then 1+S*C else 2+ring) M
   rw[show(fun j=>if j<M then 1+S*C else 2+ring) M=2+ring from if_neg (by omega)];omega
  ·show(0:Int)≤_;omega
  ·show(0:Int)≤_;omega
 have HRN:Hid (∀w T b wp rp,BayAt w T b (formed (rBay M (S*C) ring) M ring 1)->At w wp (walCells b M 1 rp 1 true none 0) 110->RingAt w rp ring 0 0->T wp=0->T rp=0->Calls Tryz.prog 46 #[.pointer (some ⟨b,0,none⟩),.agg #[.int .i64 M,.int .i64 C,.int .i64 S],.pointer (some ⟨wp,0,none⟩),.bool lazy] w fun e w'=>∃q fg,e=.returned (.tuple #[.pointer (some ⟨q,0,none⟩),.int .u16 0])/\w.heap.size≤q/\w.heap.size≤fg/\RwIn w' T ⟨b,q,wp,rp,fg⟩ (RS.made M C S ring lazy (formed (rBay M (S*C) ring) M ring 1)) none (.slice none 0 0) []/\Below w.heap.size w w'):=fun w T b wp rp hb hw hr tw tr=>rows_new hb M C S hg hmade.n wp rp 1 1 ring 0 0 true lazy none hw hr tw tr
 have HGO:Hid (∀w,Calls Tryz.prog 29 #[.agg #[.int .i64 M,.int .i64 C,.int .i64 S],.int .i64 down] w fun e w'=>e=.returned (.int .i64 (goneOf M down))/\Below w.heap.size w w'):=fun w=>r14_gone M C S down w
 obtain⟨R1,R2,hfa,hmk,hgood,hbeg⟩:=begun_marks (W:=W) (lazy:=lazy) (down:=down) hg h5 h6 hmade;have HFA:=Lib.hid hfa;have HMK:=Lib.hid hmk;have HGD:=Lib.hid hgood;have HBG:=Lib.hid hbeg;have hr5:¬((ring:Int)<5):=by omega
 have hr6:¬((2048:Int)<ring):=by omega
 clear hfa hmk hgood hbeg hmade hb0 ha0 hg h5 h6;unfold madeVal;go_enter Tryz.func11,Tryz.ntmps11
 go_wp2_with (first
  |(go_at_call 41;(with_reducible refine(HCK.out _).mono ?_);rintro e w1 ⟨rfl,hb1⟩;have ha1:=HA0.out.below hb1 HA0.out.lt;have HL1:=Lib.hid (below_then HB0.out hb1);have c0:=ha1.cell 0;have c1:=ha1.cell 1;have c2:=ha1.cell 2;have c3:=ha1.cell 3;have hlt1:=ha1.lt;have HA1:=Lib.hid ha1;clear hb1 ha1)
  |(go_at_call 44;(with_reducible refine(HSZ.out _).mono ?_);rintro e w2 ⟨v2,rfl,hv2,hb2⟩;clear c0 c1 c2 c3;have HA2:=Lib.hid (HA1.out.below hb2 HA1.out.lt);have HL2:=Lib.hid (below_then HL1.out hb2);have HV2:=Lib.hid hv2;obtain⟨xa,xc,rfl⟩:=ownsRow_shape hv2;clear hv2 hb2)
  |(go_at_call 43;(with_reducible refine(HBN.out _ _ _ HV2.out).mono ?_);rintro e w3 ⟨b,rfl,hbm⟩;have HBM:=Lib.hid hbm;have HA3:Hid (At w3 W.heap.size #[.int .i64 M,.int .i64 C,.int .i64 S,.int .i64 ring,.bool lazy,.int .i64 more] 25):=(by obtain⟨T,-,-,-,h4⟩:=hbm;exact HA2.out.below h4 HA2.out.lt);have c0:=HA3.out.cell 0;have c1:=HA3.out.cell 1;have c2:=HA3.out.cell 2;have c3:=HA3.out.cell 3;have c4:=HA3.out.cell 4;have hlt3:=HA3.out.lt;clear hbm)
  |(go_at_call 45;(obtain⟨T,hba,htz,hbw,hbe⟩:=HBM.out);(with_reducible refine(HFO.out w3 T b hba).mono ?_);rintro e w4 ⟨wp,rp,T4,rfl,hwp,hrp,twp,trp,hba4,htg4,hch4,hwal4,hring4⟩;clear c0 c1 c2 c3 c4;have HA4:Hid (At w4 W.heap.size #[.int .i64 M,.int .i64 C,.int .i64 S,.int .i64 ring,.bool lazy,.int .i64 more] 25):=(HA3.out.mod hch4 (fun e=>e (htz _ HA2.out.lt)));have HTZ:Hid (∀q,q<W.heap.size->T4 q=0):=(fun q hq=>(htg4 q (Nat.lt_trans hq hlt3)).trans (htz q (Nat.lt_trans hq HA2.out.lt)));have HL4:Hid (Below W.heap.size W w4):=((HL2.out.trans (hbe.mono (Nat.le_of_lt HA2.out.lt))).trans (hch4.below fun q hq=>⟨Nat.lt_trans hq hlt3,fun e=>e (htz q (Nat.lt_trans hq HA2.out.lt))⟩));have HB4:=Lib.hid hba4;have HW4:=Lib.hid hwal4;have HR4:=Lib.hid hring4;have HT4:Hid (T4 wp=0/\T4 rp=0):=⟨twp,trp⟩;have HI4:Hid (W.heap.size≤wp/\W.heap.size≤rp):=⟨by omega,by omega⟩;have c0:=HA4.out.cell 0;have c1:=HA4.out.cell 1;have c2:=HA4.out.cell 2;have c3:=HA4.out.cell 3;have c4:=HA4.out.cell 4;have hlt4:=HA4.out.lt;clear hba htz hbw hbe hwp hrp twp trp hba4 htg4 hch4 hwal4 hring4)
  |(go_at_call 46;(with_reducible refine(HRN.out w4 T4 b wp rp HB4.out HW4.out HR4.out HT4.out.1 HT4.out.2).mono ?_);rintro e w5 ⟨q,fg,rfl,hq,hfg,hrw,hb5⟩;clear c0 c1 c2 c3 c4;have HA5:=Lib.hid (HA4.out.below hb5 HA4.out.lt);have HBG5:Hid (BgAt W w5 T4 ⟨b,q,wp,rp,fg⟩ (RS.made M C S ring lazy (formed (rBay M (S*C) ring) M ring 1))):=⟨hrw,HTZ.out,⟨by show W.heap.size≤q;omega,HI4.out.1,HI4.out.2,by show W.heap.size≤fg;omega⟩,HL4.out.trans (hb5.mono (Nat.le_of_lt hlt4))⟩;have c0:=HA5.out.cell 0;have c1:=HA5.out.cell 1;have c2:=HA5.out.cell 2;have hlt5:=HA5.out.lt;clear hq hfg hrw hb5)
  |(go_at_call 29;(with_reducible refine(HGO.out _).mono ?_);rintro e w6 ⟨rfl,hb6⟩;clear c0 c1 c2;have HBG6:=Lib.hid (HBG5.out.below hb6);clear hb6)
  |(go_at_call 49;(with_reducible refine(HFA.out w6 T4 ⟨b,q,wp,rp,fg⟩ HBG6.out).mono ?_);rintro e w7 ⟨⟨fc,rfl⟩,hbg7⟩;have HBG7:=Lib.hid hbg7;clear hbg7)
  |(go_at_call 32;(with_reducible refine(HMK.out w7 T4 ⟨b,q,wp,rp,fg⟩ HBG7.out).mono ?_);rintro e w8 ⟨rfl,hbg8⟩;have HBG8:=Lib.hid hbg8;clear hbg8))
 go_ret3;exact⟨T4,⟨b,q,wp,rp,fg⟩,R2,rfl,HBG8.out.lat HGD.out HBG.out.wait,HBG.out⟩
end Go.Proofs.YtebmephdnjccjaaGreat