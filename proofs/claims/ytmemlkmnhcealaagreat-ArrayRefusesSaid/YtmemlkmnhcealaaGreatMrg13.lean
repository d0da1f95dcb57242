
/- Several texts in one: PlnB, PlnL, PlnC. -/
import Derived.Test.YtmemlkmnhcealaaGreatMrg8
set_option linter.unusedVariables false
set_option maxRecDepth 100000
set_option maxHeartbeats 8000000
namespace Go.Proofs.YtmemlkmnhcealaaGreat
open Value renaming int→O
open IntKind renaming i64→Z
open Go.RowKit
open Lib(hid)
variable {ps:List Pat} {C M S r:Nat} {d:Nat->Bool}
def memOf(M t i:Nat):Nat:=(M-1-t%M+1+i)%M
theorem Zgg(M C S t i:Nat)(d:Int)(w:World)(h:geoIs M C S=true)(ht:t≤4096)(hi:i≤4096):Calls Tryz.prog 110 #[shp M C S d,O Z t,O Z i] w fun e w'=>e=.returned (O Z (memOf M t i:Nat))/\Below w.heap.size w w':=by
 obtain⟨h1,h2,h3,h4,h5,h6⟩:=(Zam M C S).1 h;have hp:=hid (fun W=>Zd8 M C S t d W h ht);have hlt:t%M<M:=Nat.mod_lt _ (by omega);unfold memOf;have hq:M-1-t%M≤16:=by omega
 generalize hqq:M-1-t%M=q at*;have hM0:¬M=0:=by omega
 have hM1:¬(M:Int)=0:=by omega
 have e1:Int.tmod ((q:Int)+1+(i:Int)) (M:Int)=(((q+1+i)%M:Nat):Int):=by
  rw[show(q:Int)+1+(i:Int)=((q+1+i:Nat):Int) by omega];rfl
 have hr:(q+1+i)%M<M:=Nat.mod_lt _ (by omega);have hw1:IntKind.i64.wrap ((q:Int)+1)=(q:Int)+1:=(IntWalk.i64_left _).trans (IntWalk.wrap64_in _ ⟨by omega,by omega⟩);have hw2:IntKind.i64.wrap ((q:Int)+1+(i:Int))=(q:Int)+1+(i:Int):=(IntWalk.i64_left _).trans (IntWalk.wrap64_in _ ⟨by omega,by omega⟩);have hw3:IntKind.i64.wrap (((q+1+i)%M:Nat):Int)=(((q+1+i)%M:Nat):Int):=(IntWalk.i64_left _).trans (IntWalk.wrap64_in _ ⟨by omega,by omega⟩);generalize (q+1+i)%M=x at*;unfold shp at*;clear hqq hlt;have HA:Hid (At (w.alloc (.cells #[O Z M,O Z C,O Z S,O Z d] 135)) w.heap.size #[O Z M,O Z C,O Z S,O Z d] 135):=At.new _ _ _;have hb0:Below w.heap.size w (w.alloc (.cells #[O Z M,O Z C,O Z S,O Z d] 135)):=(Zb _ _).alloc (Za _) _;have HH:Hid (∀X,At X w.heap.size #[O Z M,O Z C,O Z S,O Z d] 135->X.cell? ⟨w.heap.size,0,none⟩=some (O Z M)/\X.cell? ⟨w.heap.size,1,none⟩=some (O Z C)/\X.cell? ⟨w.heap.size,2,none⟩=some (O Z S)/\X.cell? ⟨w.heap.size,3,none⟩=some (O Z d)):=fun X h=>⟨h.cell 0,h.cell 1,h.cell 2,h.cell 3⟩
 go_enter Tryz.func110,Tryz.ntmps110;go_wp2;go_region_held3 (fun w'=>w'.cell? ⟨w.heap.size,0,none⟩=some (O Z M)/\w'.cell? ⟨w.heap.size,1,none⟩=some (O Z C)/\w'.cell? ⟨w.heap.size,2,none⟩=some (O Z S)/\w'.cell? ⟨w.heap.size,3,none⟩=some (O Z d))
  (first|exact HH.out _ HA.out|exact HH.out _ HA.out.drew|exact HH.out _ HB.out)
  (first|(go_at_call 111;(with_reducible refine(hp.out _).mono ?_);rintro e w3 ⟨rfl,hb3⟩;have HB:=hid (HA.out.drew.below hb3 HA.out.lt)))
 go_wp2;go_ret;exact⟨rfl,Zac hb0.drew hb3⟩
theorem Zjm(M C S m r:Nat)(w:World)(h:geoIs M C S=true)(hm:m<M)(hr:r<S*C):Calls Tryz.prog 231 #[geo M C S,O Z m,O Z r] w fun e w'=>(∃b p,e=.returned (.tuple #[O Z b,.bool p,.int .u16 0]))/\Below w.heap.size w w':=by
 obtain⟨h1,h2,h3,h4,h5,h6⟩:=(Zam M C S).1 h;have hk:=hid (fun W=>Zg6 M C S W);have hro:=hid (fun d W=>Zdj M C S d W h);obtain⟨hlo,hhi⟩:=Za0 h;have hr':(r:Int)<(S:Int)*(C:Int):=by exact_mod_cast hr
 have hdiv:r/C≤r:=Nat.div_le_self _ _;have hr2:r/C≤4096:=by omega
 have hme:=hid (fun d W=>Zgg M C S (r/C) 0 d W h hr2 (by omega));have hd':((r/C:Nat):Int)=(r:Int)/(C:Int):=Int.natCast_ediv r C;unfold geoCode at hk;rw[h]at hk;simp only [if_true]at hk;have hml:memOf M (r/C) 0<M:=Nat.mod_lt _ (by omega);generalize memOf M (r/C) 0=z at*;rw[hd']at hme;simp only [show((0:Nat):Int)=0 from rfl]at hme;have hq1:0≤(r:Int)/(C:Int):=by rw[<-hd'];exact Int.natCast_nonneg _
 have hq2:(r:Int)/(C:Int)≤4096:=by rw[<-hd'];omega
 have hw:RowKit.wrap64 ((r:Int)/(C:Int))=(r:Int)/(C:Int):=IntWalk.wrap64_in _ ⟨by omega,by omega⟩;have hw':IntKind.i64.wrap ((r:Int)/(C:Int))=(r:Int)/(C:Int):=(IntWalk.i64_left _).trans hw;have hC0:¬C=0:=by omega
 have hC1:¬(C:Int)=0:=by omega
 have hM0:¬M=0:=by omega
 have hM1:¬(M:Int)=0:=by omega
 have hmm:((m:Int)-(z:Int))+(M:Int)=((m+M-z:Nat):Int):=by omega
 clear hd';unfold geo shp at*;generalize (S:Int)*(C:Int)=q at*;go_enter Tryz.func231,Tryz.ntmps231
 go_wp2_with (first
  |(go_at_call 70;(with_reducible refine(hk.out _).mono ?_);rintro e w1 ⟨d,rfl,hd,hb1⟩)
  |(go_at_call 71;(with_reducible refine(hro.out _ _).mono ?_);rintro e w2 ⟨rfl,hb2⟩;have hA2:At w2 w1.heap.size #[O Z M,O Z C,O Z S,O Z ((M:Int)-1)] 135:=(At.new w1 _ _).below hb2 (by rw[Zaa];omega);have hsz:=hb1.size;have hbb:Below w.heap.size w w2:=Zac ((Zac ((Zb w.heap.size w).alloc (Za _) _) hb1).alloc (by rw[Zaa]at hsz;omega) _) hb2;have e0:=hA2.cell 0;have e1:=hA2.cell 1;have e2:=hA2.cell 2;have e3:=hA2.cell 3;have HA2:=hid hA2;clear hA2 hb1 hb2))
 have HH:Hid (∀X,At X w1.heap.size #[O Z M,O Z C,O Z S,O Z ((M:Int)-1)] 135->X.cell? ⟨w1.heap.size,0,none⟩=some (O Z M)/\X.cell? ⟨w1.heap.size,1,none⟩=some (O Z C)/\X.cell? ⟨w1.heap.size,2,none⟩=some (O Z S)/\X.cell? ⟨w1.heap.size,3,none⟩=some (O Z ((M:Int)-1))):=fun X h=>⟨h.cell 0,h.cell 1,h.cell 2,h.cell 3⟩
 clear e0 e1 e2 e3;go_region_held3 (fun w'=>w'.cell? ⟨w1.heap.size,0,none⟩=some (O Z M)/\w'.cell? ⟨w1.heap.size,1,none⟩=some (O Z C)/\w'.cell? ⟨w1.heap.size,2,none⟩=some (O Z S)/\w'.cell? ⟨w1.heap.size,3,none⟩=some (O Z ((M:Int)-1)))
  (first|exact HH.out _ HA2.out|exact HH.out _ HA2.out.drew|exact HH.out _ HB.out)
  (first|(go_at_call 110;(with_reducible refine(hme.out _ _).mono ?_);rintro e w3 ⟨rfl,hb3⟩;have HB:=hid (HA2.out.drew.below hb3 HA2.out.lt)))
 have e0:=HB.out.cell 0;have e1:=HB.out.cell 1;have e3:=HB.out.cell 3;generalize (IntKind.i64.wrap (IntKind.i64.wrap ((m:Int)-(z:Int))+(M:Int))).tmod (M:Int)=j;by_cases hj:j=(M:Int)-1
 ·have hj':(j==(M:Int)-1)=true:=by simp[hj]
  clear hj;go_wp2;go_ret3;exact⟨⟨_,_,rfl⟩,Zac hbb.drew hb3⟩
 ·have hj':(j==(M:Int)-1)=false:=by simp[hj]
  clear hj;go_wp2;go_quiet (fail);go_wp2;go_ret3;exact⟨⟨_,_,rfl⟩,below_drewN (Zac hbb.drew hb3) _⟩
open Go.RowKit
def xorBut(F:Nat->List UInt8)(k:Nat):Nat->Nat->UInt8
 |0,_=>0
 |n+1,i=>if n=k then xorBut F k n i else xorBut F k n i^^^(F n).getD i 0
theorem Zmx(F:Nat->List UInt8)(k:Nat):xorBut F k (k+1)=xorBut F k k:=by
 funext i;show(if k=k then _ else _)=_
 rw[Zf rfl]
theorem Zqn(F:Nat->List UInt8){k n:Nat}(h:n≠k):xorBut F k (n+1)=fun i=>xorBut F k n i^^^(F n).getD i 0:=by
 funext i;show(if n=k then _ else _)=_
 rw[Ze h]
theorem Zp8(M C S r kk:Nat)(vrd:Value)(ls:List (List UInt8))(w:World)(hg:geoIs M C S=true)(hr:r<S*C)(hk:kk<M)(hls:Segs w vrd ls)(hlm:ls.length=M)(hl:∀m,m<M->m≠kk->(ls.getD m []).length=128):
  Calls Tryz.prog 156 #[geo M C S,O Z r,O Z kk,vrd] w fun e w'=>∃v,e=.returned (.tuple #[v,.int .u16 0])/\w'.ownsRow w.heap.size 5 1 v 128 (ucells (sumL (xorBut (fun m=>ls.getD m []) kk M) 128))/\Below w.heap.size w w':=by
 obtain⟨h1,h2,h3,h4,h5,h6⟩:=(Zam M C S).1 hg;have hat:=hid (fun W=>Zjm M C S kk r W hg hk hr);have hnew:=hid (fun W=>Zr6 128 W (by omega));simp only [show((128:Nat):Int)=128 from rfl]at hnew;have HLS:=hid hls;have HL:=hid hl;obtain⟨sa,sc,hvs⟩:=hls.shape;rw[hlm]at hvs;subst hvs;have hne:((M:Int) !=(M:Int))=false:=by simp
 have hb0:Below w.heap.size w (w.alloc (.cells #[O Z M,O Z C,O Z S] 26)):=(Zb _ _).alloc (Za _) _;have HG0:Hid (At (w.alloc (.cells #[O Z M,O Z C,O Z S] 26)) w.heap.size #[O Z M,O Z C,O Z S] 26):=At.new _ _ _;clear hls hl;unfold geo at*;go_enter Tryz.func156,Tryz.ntmps156
 go_wp2_with (first
  |(go_at_call 231;(with_reducible refine(hat.out _).mono ?_);rintro e w1 ⟨⟨zb,zp,rfl⟩,hb1⟩;have hg1:=HG0.out.below hb1 HG0.out.lt;have c0:=hg1.cell 0;have HB1:=hid (Zac hb0 hb1);clear hg1 hb1)
  |(go_at_call 214;(with_reducible refine(hnew.out _).mono ?_);rintro e w7 ⟨g,gb,rfl,hsum,hg1,hg2,hb7⟩;have HS7:=hid hsum;have HB7:=hid hb7;clear hsum hb7 c0))
 have HSS:=hid (HLS.out.below HB1.out);have hlm':=hid hlm;clear HLS hne hat hnew HG0 hb0;go_loopw [39] (fun t wr=>∃(k:Nat) (many:Int),k≤M/\t=O Z k/\0≤many/\many≤k/\SumAt wr g gb 128 (xorBut (fun m=>ls.getD m []) kk k) many/\Below w1.heap.size w1 wr) (fun t _=>M-(intOf t).toNat);case atStart=>exact⟨0,0,by omega,rfl,by omega,by omega,HS7.out,HB7.out⟩
 case round=>
  obtain⟨k,many,hk',rfl,hm0,hm1,hs,hbw⟩:=hrel;have HS:=hid hs;have HBW:=hid hbw;clear hs HS7 HB7;by_cases hkn:k<M
  ·have K1:Hid (k+1≤M):=hkn
   obtain⟨sb,so,sc',hve,hslt,hsx⟩:=Segs.full (HSS.out.below hbw) (by omega);rw[hlm]at hve;simp only [Zn,true_and]at hve;obtain⟨rfl,rfl⟩:=hve;obtain⟨u,d0,hu⟩:=hsx k (by omega);have hgl:ls.getD k []=ls[k]'(by omega):=by rw[Zi,Zh (by omega)];rfl
   rw[<-hgl]at hu;obtain⟨ua,uc,rfl⟩:=hu.shape;by_cases hkk:k=kk
   ·subst hkk
    have hq:((k:Int) !=(k:Int))=false:=by simp
    have hx:=hid (Zmx (fun m=>ls.getD m []) k);clear hsx hu hgl;generalize (ls.getD k []).length=un at*;as_aux_lemma=>
     go_wp2;refine⟨⟨k+1,many,K1.out,by go_num,hm0,by omega,?_,HBW.out⟩,by simp[intOf];omega⟩;rw[hx.out];exact HS.out
   ·have hq:((k:Int) !=(kk:Int))=true:=by simp;omega
    have hx:=hid (Zqn (fun m=>ls.getD m []) hkk);have hl128:=HL.out k hkn hkk;obtain⟨b6,o6,c6,hv6,hb6⟩:∃b6 o6 c6,(Value.slice ua (ls.getD k []).length uc)=.slice (some ⟨b6,o6,none⟩) (ls.getD k []).length c6/\b6<w1.heap.size:=by
     obtain⟨sb',so',sc'',hve',hslt',hsx'⟩:=Segs.full HSS.out (by omega);simp only [Zn,Zg,Addr.mk.injEq,and_true]at hve';obtain⟨⟨rfl,rfl⟩,-,rfl⟩:=hve';obtain⟨u',e1,e2⟩:=hsx' k (by omega);have e3:=(hbw.cell (p:=⟨sb,so+k,none⟩) hslt').trans e1;rw[d0]at e3;simp only [Zg]at e3;rw[<-e3,<-hgl]at e2;obtain⟨b6,o6,c6,h1,h2,-⟩:=Seg.full e2 (by omega);exact⟨b6,o6,c6,h1,h2⟩
    simp only [Zn,true_and]at hv6;obtain⟨rfl,rfl⟩:=hv6;have hAdd:=hid (Zne g gb 128 _ many (.slice (some ⟨b6,o6,none⟩) (ls.getD k []).length uc) (ls.getD k []) wr HS.out (by omega) hu hl128 (fun a q c hv=>by simp only [Zn,Zg]at hv;rw[<-hv.1];show b6≠gb;omega) (by omega) (by omega));rw[hl128]at d0 hAdd;clear hsx hu hgl;as_aux_lemma=>
     go_wp2_with (go_at_call 215;(with_reducible refine hAdd.out.mono ?_);rintro e w8 ⟨rfl,hs8,hc8⟩);refine⟨⟨k+1,many+1,K1.out,by go_num,by omega,by omega,?_,Chg.own HBW.out hc8 (fun q hq=>by rcases hq with rfl|rfl<;>assumption)⟩,by simp[intOf];omega⟩;rw[hx.out];exact hs8
  ·obtain rfl:k=M:=by omega
   have hxv:=hid (Zma g gb 128 _ _ wr HS.out (by omega));go_wp2_with (go_at_call 216;(with_reducible refine hxv.out.mono ?_);rintro e w9 ⟨v,rfl,hv,hb9⟩);go_ret2;have hbb:=Zac HB1.out HBW.out;exact⟨v,rfl,Zan hv hbb.size,Zac hbb hb9⟩
open Go.RowKit
def Lone(d:Nat->Bool)(M:Nat):Prop:=∀i j,i<M->j<M->d i=true->d j=true->i=j
structure PlanOk (M C S:Nat) (d:Nat->Bool) (ps:List Pat) (r:Nat):Prop where
 hg:geoIs M C S=true
 hr:r<S*C
 ne:0<ps.length
 rows:∀p∈ps,p.r=(r:Int)
 lo:∀p∈ps,0≤p.m
 hi:∀p∈ps,p.m<(M:Int)
 np:∀p∈ps,p.m≠((parOf M C r:Nat):Int)
 rising:∀i j (hi:i<ps.length) (hj:j<ps.length),i<j->ps[i].m<ps[j].m
 len:∀p∈ps,p.d.length=128
 lone:Lone d M
structure RowAt (W:World) (q M C S:Nat) (vd vp:Value) (d:Nat->Bool) (ps:List Pat) (r:Nat):Prop where
 at':At W q #[O Z M,O Z C,O Z S,vd,vp,O Z ((parOf M C r:Nat):Int)] 286
 ds:BSeg W vd d M
 pt:PSeg W vp ps
theorem RowAt.below{W W':World}{q:Nat}{vd vp:Value}(h:RowAt W q M C S vd vp d ps r)(hb:Below W.heap.size W W'):RowAt W' q M C S vd vp d ps r:=
 ⟨h.at'.below hb h.at'.lt,h.ds.below hb,h.pt.below hb⟩
def lastOf(ps:List Pat)(k:Nat):Int:=if h:0<k/\k-1<ps.length then (ps[k-1]'h.2).m else -1
theorem Zrf(h:PlanOk M C S d ps r)(k:Nat)(hk:k<ps.length):lastOf ps k<ps[k].m:=by
 unfold lastOf;split
 ·rename_i hh
  exact h.rising _ _ hh.2 hk (by omega)
 ·have:=h.lo _ (Zj hk)
  omega
theorem Zn4(ps:List Pat)(k:Nat)(hk:k<ps.length):lastOf ps (k+1)=ps[k].m:=by
 unfold lastOf;rw[dif_pos ⟨by omega,by simpa using hk⟩];simp
def LostIs(d:Nat->Bool)(k:Nat)(z:Int):Prop:=(z=0/\∀i,i<k->d i=false)\/(z=1/\∃i,i<k/\d i=true)
theorem Zvl(M C S r:Nat)(vd vp:Value)(d:Nat->Bool)(ps:List Pat)(w:World)(ok:PlanOk M C S d ps r)(hd:BSeg w vd d M)(hp:PSeg w vp ps):
  Calls Tryz.prog 208 #[geo M C S,vd,vp] w fun e w'=>∃q,e=.returned (.tuple #[.pointer (some ⟨q,0,none⟩),.int .u16 0])/\RowAt w' q M C S vd vp d ps r/\Below w.heap.size w w'/\w.heap.size≤q:=by
 obtain⟨h1,h2,h3,h4,h5,h6⟩:=(Zam M C S).1 ok.hg;have hk:=hid (fun W=>Zb1 M C S W);have hpar:=hid (fun W=>Znl M C S r W ok.hg ok.hr);have hat:Hid (∀m:Int,0≤m->m<(M:Int)->∀W,Calls Tryz.prog 231 #[geo M C S,O Z m,O Z r] W fun e w'=>(∃b p,e=.returned (.tuple #[O Z b,.bool p,.int .u16 0]))/\Below W.heap.size W w'):=fun m hm0 hm1 W=>by
  obtain⟨k,rfl⟩:=Int.eq_ofNat_of_zero_le hm0;exact Zjm M C S k r W ok.hg (by exact_mod_cast hm1) ok.hr
 unfold geoCode at hk;rw[ok.hg]at hk;simp only [if_true]at hk;have hpl:parOf M C r<M:=by unfold parOf;omega
 generalize hpp:parOf M C r=par at*;have HD:=hid hd;have HP:=hid hp;have HO:=hid ok;have hn0:=ok.ne;have hn1:((ps.length:Int)==0)=false:=by simp;intro h;rw[h]at hn0;simp at hn0
 have hfew:=hp.few;have hb0:Below w.heap.size w (w.alloc (.cells #[O Z M,O Z C,O Z S] 26)):=(Zb _ _).alloc (Za _) _;have HA:Hid (At (w.alloc (.cells #[O Z M,O Z C,O Z S] 26)) w.heap.size #[O Z M,O Z C,O Z S] 26):=At.new _ _ _;obtain⟨da,dc,rfl⟩:=hd.shape;obtain⟨pa,pc,rfl⟩:=hp.shape;clear hd hp ok;unfold geo at*;go_enter Tryz.func208,Tryz.ntmps208;go_wp2_with (go_at_call 38;(with_reducible refine(hk.out _).mono ?_);rintro e w1 ⟨rfl,hb1⟩;have ha1:=HA.out.below hb1 HA.out.lt;have c0:=ha1.cell 0;have c1:=ha1.cell 1;have c2:=ha1.cell 2;have HA1:=hid ha1;have HB1:=hid (Zac hb0 hb1);clear ha1);clear c0 c1 c2;go_loopw [39] (fun q wr=>∃k:Nat,k≤ps.length/\q=O Z k/\Below w.heap.size w wr/\At wr w.heap.size #[O Z M,O Z C,O Z S] 26) (fun q _=>ps.length-(intOf q).toNat);case atStart=>exact⟨0,by omega,rfl,HB1.out,HA1.out⟩
 case round=>
  obtain⟨k,hk',rfl,hbw,hag⟩:=hrel;have HG:=hid hag;have hlt0:=hag.lt;have c0:=hag.cell 0;have c1:=hag.cell 1;have c2:=hag.cell 2;clear hag;by_cases hkn:k<ps.length
  ·obtain⟨b,o,rfl,hlt,hx⟩:=PSeg.full (HP.out.below hbw) (by omega)
   obtain⟨p0,p1,u,p2,hu⟩:=hx k hkn;obtain⟨ua,uc,rfl⟩:=hu.shape;have K1:Hid (k+1≤ps.length):=hkn;have hm0:=HO.out.lo _ (Zj hkn);have hm1:=HO.out.hi _ (Zj hkn);have hat':=hid (hat.out _ hm0 hm1);rw[HO.out.rows _ (Zj hkn)]at p1;clear hx hu;generalize ps[k].d.length=n at*;generalize ps[k].m=x at*;as_aux_lemma=>
    go_wp2_with (go_at_call 231;(with_reducible refine(hat'.out _).mono ?_);rintro e w2 ⟨⟨zb,zp,rfl⟩,hb2⟩);refine⟨⟨k+1,K1.out,by go_num,Zac (hbw.alloc hbw.size _) hb2,(HG.out.alloc _).below hb2 (by rw[Zaa];omega)⟩,by simp[intOf];omega⟩
  ·obtain rfl:k=ps.length:=by omega
   obtain⟨b,o,rfl,hlt,hx⟩:=PSeg.full (HP.out.below hbw) (by omega);obtain⟨p0,p1,-⟩:=hx 0 (by omega);simp only [Nat.zero_mul,Nat.add_zero]at p0 p1;rw[HO.out.rows _ (Zj (by omega))]at p1;obtain⟨W0,hW0⟩:∃W0,W0=wr.alloc (.cells #[O Z M,O Z C,O Z S,.slice da M dc,.slice (some ⟨b,o,none⟩) ps.length pc,O Z 0] 286):=⟨_,rfl⟩;have hr0:At W0 wr.heap.size #[O Z M,O Z C,O Z S,.slice da M dc,.slice (some ⟨b,o,none⟩) ps.length pc,O Z 0] 286:=by rw[hW0];exact At.new _ _ _
   have hg0:At W0 w.heap.size #[O Z M,O Z C,O Z S] 26:=by rw[hW0];exact HG.out.alloc _
   have hbw0:Below w.heap.size w W0:=by rw[hW0];exact hbw.alloc hbw.size _
   have HR0:=hid hr0;have HG0:=hid hg0;have hcut:Hid (∀X,Below W0.heap.size W0 X->X.cell? ⟨w.heap.size,0,none⟩=some (O Z M)/\X.cell? ⟨w.heap.size,1,none⟩=some (O Z C)/\X.cell? ⟨w.heap.size,2,none⟩=some (O Z S)/\X.cell? ⟨b,o+1,none⟩=some (O Z r)):=fun X hX=>by
    have:=HG0.out.below hX HG0.out.lt;have hlt':b<W0.heap.size:=by rw[hW0,Zaa];omega
    refine⟨this.cell 0,this.cell 1,this.cell 2,(hX.cell (p:=⟨b,o+1,none⟩) hlt').trans ?_⟩;rw[hW0];exact(World.cell?_alloc_lt _ _ (a:=⟨b,o+1,none⟩) hlt).trans p1
   have hblt:b≠wr.heap.size:=by omega
   have hglt:w.heap.size≠wr.heap.size:=by omega
   have hz0:W0.heap.size=wr.heap.size+1:=by rw[hW0,Zaa]
   have hcut2:Hid (∀X,Below W0.heap.size W0 X->∀v,(X.setCell ⟨wr.heap.size,5,none⟩ v).cell? ⟨w.heap.size,0,none⟩=some (O Z M)/\(X.setCell ⟨wr.heap.size,5,none⟩ v).cell? ⟨w.heap.size,1,none⟩=some (O Z C)/\(X.setCell ⟨wr.heap.size,5,none⟩ v).cell? ⟨w.heap.size,2,none⟩=some (O Z S)/\(X.setCell ⟨wr.heap.size,5,none⟩ v).cell? ⟨b,o+1,none⟩=some (O Z r)):=fun X hX v=>by
    obtain⟨k0,k1,k2,k3⟩:=hcut.out X hX;have hst:=Zk (S:=fun q=>q=wr.heap.size) (Zl _ X) ⟨wr.heap.size,5,none⟩ (.inl rfl) v;have hXs:=hX.size;exact⟨(hst.cell (p:=⟨w.heap.size,0,none⟩) (by show w.heap.size<_;omega) hglt).trans k0,(hst.cell (p:=⟨w.heap.size,1,none⟩) (by show w.heap.size<_;omega) hglt).trans k1,(hst.cell (p:=⟨w.heap.size,2,none⟩) (by show w.heap.size<_;omega) hglt).trans k2,(hst.cell (p:=⟨b,o+1,none⟩) (by show b<_;omega) hblt).trans k3⟩
   subst hW0;clear hx hr0 hg0 p0 p1 hlt;go_wp2;clear c0 c1 c2;go_region_held3 (fun w'=>w'.cell? ⟨w.heap.size,0,none⟩=some (O Z M)/\w'.cell? ⟨w.heap.size,1,none⟩=some (O Z C)/\w'.cell? ⟨w.heap.size,2,none⟩=some (O Z S)/\w'.cell? ⟨b,o+1,none⟩=some (O Z r))
    (first|exact hcut.out _ (Zb _ _)|exact hcut.out _ (Zb _ _).drew|exact hcut.out _ HB2.out|exact HC2.out)
    (first|(go_at_call 258;(with_reducible refine(hpar.out _).mono ?_);rintro e w2 ⟨rfl,hb2⟩;have HB2:=hid ((Zb _ _).drew.trans hb2);have hR2:=HR0.out.below HB2.out HR0.out.lt;have d5:w2.cell? ⟨wr.heap.size,5,none⟩=some (O Z 0):=hR2.cell 5;have f5:=hR2.free 5;have HR2:=hid hR2;have HC2:=hid (hcut2.out _ HB2.out (O Z (par:Int)));clear hR2 hb2))
   have hR3:=HR2.out.set 5 (O Z (par:Int));have hbw3:Below w.heap.size w (w2.setCell ⟨wr.heap.size,5,none⟩ (O Z (par:Int))):=(hbw0.trans ((HB2.out).mono (by show w.heap.size≤(wr.alloc _).heap.size;rw[hz0];omega))).setCell (p:=⟨wr.heap.size,5,none⟩) (Nat.le_of_lt hlt0) _;generalize hrb:wr.heap.size=rb at*;have hrb':w.heap.size≤rb:=Nat.le_of_lt hlt0;generalize w2.setCell ⟨rb,5,none⟩ (O Z (par:Int))=w3 at*;have HR3:=hid hR3;have HB3:=hid hbw3;clear d5 f5 hR3 hbw3 HC2 HR2 HB2 hcut2 hcut hz0 HG0 HR0 hbw0 hblt hglt hrb hlt0 HG hbw;go_wp2;go_loopw [15,76] (fun v q wr=>∃k:Nat,k≤ps.length/\q=O Z k/\v=O Z (lastOf ps k)/\Below w.heap.size w wr/\At wr rb #[O Z M,O Z C,O Z S,.slice da M dc,.slice (some ⟨b,o,none⟩) ps.length pc,O Z (par:Int)] 286) (fun _ q _=>ps.length-(intOf q).toNat);case atStart=>exact⟨0,by omega,rfl,by unfold lastOf;rw[dif_neg (by omega)],HB3.out,HR3.out⟩
   case round=>
    obtain⟨k,hk',rfl,rfl,hbq,haq⟩:=hrel;have HQ:=hid haq;have HBQ:=hid hbq;obtain⟨b',o',hve,hlt,hx⟩:=PSeg.full (HP.out.below hbq) (by omega);simp only [Zg,Addr.mk.injEq,and_true]at hve;obtain⟨rfl,rfl⟩:=hve;have hltr:=haq.lt;by_cases hkn:k<ps.length
    ·obtain⟨p0,p1,u,p2,hu⟩:=hx k hkn
     obtain⟨-,q1,-⟩:=hx 0 (by omega);simp only [Nat.zero_mul,Nat.add_zero]at q1;obtain⟨ua,uc,rfl⟩:=hu.shape;have K1:Hid (k+1≤ps.length):=hkn;rw[HO.out.rows _ (Zj hkn)]at p1;rw[HO.out.rows _ (Zj (by omega))]at q1;have hlast:=Zrf HO.out k hkn;have hls:=hid (Zn4 ps k hkn);have hnp:(ps[k].m==(par:Int))=false:=beq_eq_false_iff_ne.2 (by rw[<-hpp];exact HO.out.np _ (Zj hkn));have hle:decide (ps[k].m≤lastOf ps k)=false:=decide_eq_false (by omega);have c5:wr.cell? ⟨rb,5,none⟩=some (O Z (par:Int)):=haq.cell 5;clear hx hu hbq haq;generalize lastOf ps k=la at*;generalize ps[k].d.length=n at*;generalize ps[k].m=x at*;as_aux_lemma=>
      go_wp2;go_quiet (fail);go_wp2;refine⟨⟨k+1,K1.out,by go_num,by rw[hls.out],below_drewN (HBQ.out.alloc HBQ.out.size _) _,(HQ.out.alloc _)⟩,by simp[intOf];omega⟩
    ·obtain rfl:k=ps.length:=by omega
     have hshort:Hid (∀W,Below w.heap.size w W->Calls Tryz.prog 260 #[.slice (some ⟨b,o,none⟩) ps.length pc,.func (.func 259) #[] #[]] W fun e w'=>e=.returned (.bool false)/\Below W.heap.size W w'):=fun W hW=>by
      refine(Zii _ ps W (HP.out.below hW)).mono fun e w' ⟨x1,x2⟩=>⟨?_,x2⟩
      rw[x1];have:(ps.any fun p=>decide (p.d.length≠128))=false:=by
       rw[List.any_eq_false];intro p hp;have:=HO.out.len p hp;simp[this]
      rw[this]
     clear hx hlt hbq haq;go_wp2_with (go_at_call 260;(with_reducible refine(hshort.out _ HBQ.out).mono ?_);rintro e w4 ⟨rfl,hb4⟩;have HQ4:=hid (HQ.out.below hb4 HQ.out.lt);have HB4:=hid (Zac HBQ.out hb4));go_loopw [19,110] (fun v q wr=>∃(k:Nat) (z:Int),k≤M/\q=O Z k/\v=O Z z/\LostIs d k z/\wr=w4) (fun _ q _=>M-(intOf q).toNat);case atStart=>exact⟨0,0,by omega,rfl,rfl,.inl ⟨rfl,fun i hi=>by omega⟩,rfl⟩
     case round=>
      obtain⟨k,z,hk',rfl,rfl,hz,rfl⟩:=hrel;have HZ:=hid hz;have hz01:z=0\/z=1:=by rcases hz with ⟨h,-⟩|⟨h,-⟩<;>omega
      clear hz;by_cases hkM:k<M
      ·have K1:Hid (k+1≤M):=hkM
       obtain⟨db,do',dc',hve,hltd,hxd⟩:=(HD.out.below HB4.out).full (by omega);simp only [Zn]at hve;obtain⟨rfl,-,rfl⟩:=hve;have d0:=hxd k hkM;clear hxd;cases hq:d k
       ·rw[hq]at d0
        have hz':Hid (LostIs d (k+1) z):=by
         rcases HZ.out with ⟨h1,h2⟩|⟨h1,i,h2,h3⟩
         ·refine .inl ⟨h1,fun i hi=> ?_⟩
          by_cases hik:i=k
          ·subst hik;exact hq
          ·exact h2 i (by omega)
         ·exact .inr ⟨h1,i,by omega,h3⟩
        clear hq;as_aux_lemma=>
         go_wp2;exact⟨⟨k+1,z,K1.out,by go_num,rfl,hz'.out,trivial⟩,by simp[intOf];omega⟩
       ·rw[hq]at d0
        have hz':Hid (z=0/\LostIs d (k+1) 1):=by
         rcases HZ.out with ⟨h1,h2⟩|⟨h1,i,h2,h3⟩
         ·exact⟨h1,.inr ⟨rfl,k,by omega,hq⟩⟩
         ·have:=HO.out.lone i k (by omega) hkM h3 hq
          omega
        obtain rfl:=hz'.out.1;clear hq;as_aux_lemma=>
         go_wp2;exact⟨⟨k+1,1,K1.out,by go_num,rfl,hz'.out.2,trivial⟩,by simp[intOf];omega⟩
      ·obtain rfl:k=M:=by omega
       have hz1:decide ((1:Int)<z)=false:=decide_eq_false (by omega);go_wp2;go_ret2;refine⟨rb,rfl,⟨?_,HD.out.below HB4.out,HP.out.below HB4.out⟩,HB4.out,hrb'⟩;rw[hpp];exact HQ4.out
end Go.Proofs.YtmemlkmnhcealaaGreat
