
/- plan.Work: what a plan comes to. -/
import Derived.Test.YtmemlkmnhcealaaGreatMrg16
set_option linter.unusedVariables false
set_option maxRecDepth 100000
set_option maxHeartbeats 8000000
namespace Go.Proofs.YtmemlkmnhcealaaGreat
open Value renaming int→O,slice→Zt
open IntKind renaming i64→Z
open Obj renaming cells→Zv
open Go.RowKit
open Lib(hid)
variable {ps:List Pat} {k:Nat} {d:Nat->Bool} {dv:Nat->Value}
def xorUp(F:Nat->List UInt8):Nat->Nat->UInt8
 |0,_=>0
 |k+1,i=>xorUp F k i^^^(F k).getD i 0
def addsOf(L:List Nat)(ls:List (List UInt8))(ps:List Pat)(j:Nat):List UInt8:=if j<L.length then ls.getD (L.getD j 0) []else (ps.getD (j-L.length) pat0).d
def stays(d:Nat->Bool)(ps:List Pat)(j:Nat):Bool:= !d (ps.getD j pat0).m.toNat
def outX(d:Nat->Bool)(ps:List Pat)(dv:Nat->Value)(k:Nat):List OP:=(whichTo (stays d ps) k).map fun j=>(ps.getD j pat0,dv j)
theorem Zrl(d:Nat->Bool)(ps:List Pat)(dv:Nat->Value)(k:Nat):outX d ps dv (k+1)=if stays d ps k then outX d ps dv k++ [(ps.getD k pat0,dv k)]else outX d ps dv k:=by
 unfold outX;rw[Zb3];split<;>simp
theorem Zhh(d:Nat->Bool)(ps:List Pat)(dv:Nat->Value)(k:Nat):(outX d ps dv k).length≤k:=by
 unfold outX;rw[Zp];exact Za7 _ _
theorem Zg4{x:OP}(h:x∈outX d ps dv k):∃j,j<k/\x=(ps.getD j pat0,dv j):=by
 unfold outX whichTo at h;obtain⟨j,hj,rfl⟩:=List.mem_map.1 h;have:=(List.mem_filter.1 hj).1;exact⟨j,by simpa using this,rfl⟩
def outPats(d:Nat->Bool)(ps:List Pat)(par:Nat)(r:Nat)(newp:List UInt8):List Pat:=
 (whichTo (stays d ps) ps.length).map (fun j=>ps.getD j pat0)++(if d par then []else [⟨par,r,newp⟩])
theorem PRow.cells{w:World}{B:Nat}{v:Value}(h:PRow w B v ps ps.length dv)(k:Nat)(hk:k<ps.length):
  ∃g c,v=Zt (some ⟨g,0,none⟩) ps.length c/\g<w.heap.size/\w.cell? ⟨g,k*3,none⟩=some (O Z (ps.getD k pat0).m)/\w.cell? ⟨g,k*3+1,none⟩=some (O Z (ps.getD k pat0).r)/\w.cell? ⟨g,k*3+2,none⟩=some (dv k):=by
 obtain⟨g,c,hv,hB,hg⟩:=Zas h.row (by omega);have hr:=h.row;rw[hv]at hr;have c0:=Zb5 hr (Zbf ps dv) k 0 hk (by omega);have c1:=Zb5 hr (Zbf ps dv) k 1 hk (by omega);have c2:=Zb5 hr (Zbf ps dv) k 2 hk (by omega);exact⟨g,c,hv,hg,c0,c1,c2⟩
theorem Zsl{m:Nat}(h:(ps.getD k pat0).m=(m:Int)):stays d ps k= !d m:=by
 unfold stays;rw[h];simp
theorem Zvu{M C S r:Nat}(ok:PlanOk M C S d ps r)(dv:Nat->Value):(outX d ps dv ps.length).Pairwise fun x y=>x.1.m≤y.1.m:=by
 unfold outX whichTo;rw[List.pairwise_map];refine(List.pairwise_lt_range.filter _).imp_of_mem fun {a b} ha hb hab=> ?_
 have ha':=List.mem_range.1 (List.mem_filter.1 ha).1;have hb':=List.mem_range.1 (List.mem_filter.1 hb).1;show(ps.getD a pat0).m≤(ps.getD b pat0).m
 rw[Zbx ps a ha',Zbx ps b hb'];have:=ok.rising a b ha' hb' hab;omega
theorem Zpi(M C S r:Nat)(vd vq vr vrd:Value)(d:Nat->Bool)(ps:List Pat)(ls:List (List UInt8))(w:World)(ok:PlanOk M C S d ps r)(z:Int)(hz:GoneIs d M z)(hd:BSeg w vd d M)
  (hq:PSeg w vq ps) (hr:ISeg w vr (readsOf ps (parOf M C r) M (modeOf M ps (parOf M C r) z))) (hls:Segs w vrd ls) (hlm:ls.length=M) (hlr:∀m∈readsOf ps (parOf M C r) M (modeOf M ps (parOf M C r) z),m<M/\(ls.getD m []).length=128):
  Calls Tryz.prog 146 #[geo M C S,vd,planVal r (modeOf M ps (parOf M C r) z:Nat) (parOf M C r:Nat) vq vr,vrd] w fun e w'=>∃v X,e=.returned (.tuple #[v,.int .u16 0])/\ORow w' w.heap.size v X/\
   (X.map (·.1)).Perm (outPats d ps (parOf M C r) r (sumL (xorUp (addsOf (readsOf ps (parOf M C r) M (modeOf M ps (parOf M C r) z)) ls ps) ((readsOf ps (parOf M C r) M (modeOf M ps (parOf M C r) z)).length+ps.length)) 128))/\(X.Pairwise fun x y=>x.1.m≤y.1.m)/\Below w.heap.size w w':=by
 obtain⟨h1,h2,h3,h4,h5,h6⟩:=(Zam M C S).1 ok.hg;have hM16:M≤16:=by omega
 have hfew:=ok.few;have hn0:=ok.ne;have hrl:=Zde ps (parOf M C r) M (modeOf M ps (parOf M C r) z);have hpl:parOf M C r<M:=by unfold parOf;omega
 have hk:=hid (fun W=>Zb1 M C S W);unfold geoCode at hk;rw[ok.hg]at hk;simp only [if_true]at hk;obtain⟨qa,qc,rfl⟩:=hq.shape;have hof:Hid (∀W,Below w.heap.size w W->_):=fun W hW=>Zrj M C S r vd (Zt qa ps.length qc) d ps W ok (hd.below hW) (hq.below hW) z hz
 have HO:=hid ok;clear ok;generalize hpp:parOf M C r=par at*;generalize modeOf M ps par z=md at*;generalize hLL:readsOf ps par M md=L at*;obtain⟨ra,rc,rfl⟩:=hr.shape;have hlk:Hid (∀(W:World) vq' vr',Below w.heap.size w W->PSeg W vq' ps->ISeg W vr' L->Calls Tryz.prog 213 #[.agg #[O Z r,.int .u8 md,O Z par,Zt qa ps.length qc,Zt ra L.length rc],.agg #[O Z r,.int .u8 md,O Z par,vq',vr']] W fun e w'=>e=.returned (.bool true)/\Below W.heap.size W w'):=fun W vq' vr' hW h1 h2=>Ztj r md par _ _ vq' vr' ps L W (by omega) (hq.below hW) (hr.below hW) h1 h2
 have hnew:=hid (fun W=>Zr6 128 W (by omega));simp only [show((128:Nat):Int)=128 from rfl]at hnew;have HD:=hid hd;have HLS:=hid hls;have HLR:=hid hlr;have HLM:=hid hlm;obtain⟨sa,sc,hvs⟩:=hls.shape;rw[hlm]at hvs;subst hvs;have hne:((M:Int) !=(M:Int))=false:=by simp
 have hb0:Below w.heap.size w ((w.alloc (Zv #[O Z M,O Z C,O Z S] 26)).alloc (Zv #[O Z r,.int .u8 md,O Z par,Zt qa ps.length qc,Zt ra L.length rc] 217)):=((Zb _ _).alloc (Za _) _).alloc (by rw[Zaa];omega) _;have HG0:Hid (At ((w.alloc (Zv #[O Z M,O Z C,O Z S] 26)).alloc (Zv #[O Z r,.int .u8 md,O Z par,Zt qa ps.length qc,Zt ra L.length rc] 217)) w.heap.size #[O Z M,O Z C,O Z S] 26):=(At.new _ _ _).alloc _;have HP0:Hid (At ((w.alloc (Zv #[O Z M,O Z C,O Z S] 26)).alloc (Zv #[O Z r,.int .u8 md,O Z par,Zt qa ps.length qc,Zt ra L.length rc] 217)) (w.heap.size+1) #[O Z r,.int .u8 md,O Z par,Zt qa ps.length qc,Zt ra L.length rc] 217):=At.new2 _ _ _ _;clear hd hq hr hls hlr hlm hz;unfold geo planVal at*;go_enter Tryz.func146,Tryz.ntmps146
 go_wp2_with (first
  |(go_at_call 38;(with_reducible refine(hk.out _).mono ?_);rintro e w1 ⟨rfl,hb1⟩;have hg1:=HG0.out.below hb1 HG0.out.lt;have hp1:=HP0.out.below hb1 HP0.out.lt;have c0:=hg1.cell 0;have c1:=hg1.cell 1;have c2:=hg1.cell 2;have c3:=hp1.cell 3;have HG1:=hid hg1;have HP1:=hid hp1;have HB1:=hid (Zac hb0 hb1);clear hg1 hp1 hb1)
  |(go_at_call 145;(with_reducible refine(hof.out _ HB1.out).mono ?_);rintro e w4 ⟨vq',vr',dv,rfl,hpr,hri,hb4⟩;obtain⟨qa',qc',rfl⟩:=Zab hpr.row;obtain⟨ra',rc',rfl⟩:=Zab hri;have hb5:=hb4.alloc hb4.size (Zv #[O Z r,.int .u8 md,O Z par,Zt qa' ps.length qc',Zt ra' L.length rc'] 217);have HB5:=hid (Zac HB1.out hb5);have hA5:=HP1.out.below hb5 HP1.out.lt;have a0:=hA5.cell 0;have a1:=hA5.cell 1;have a2:=hA5.cell 2;have a3:=hA5.cell 3;have a4:=hA5.cell 4;have HG5:=hid (HG1.out.below hb5 HG1.out.lt);have HA5:Hid (At (w4.alloc (Zv #[O Z r,.int .u8 md,O Z par,Zt qa' ps.length qc',Zt ra' L.length rc'] 217)) w4.heap.size #[O Z r,.int .u8 md,O Z par,Zt qa' ps.length qc',Zt ra' L.length rc'] 217):=At.new _ _ _;have hw45:Below w4.heap.size w4 (w4.alloc (Zv #[O Z r,.int .u8 md,O Z par,Zt qa' ps.length qc',Zt ra' L.length rc'] 217)):=(Zb _ _).alloc (Za _) _;have HPR:=hid ((hpr.below hw45).lower (show w.heap.size≤w1.heap.size from HB1.out.size));have HRI:=hid ((Zd4 hri).below hw45);clear hA5 hb4 hb5 hpr hri hw45 c0 c1 c2 c3)
  |(go_at_call 213;(with_reducible refine(hlk.out _ _ _ HB5.out (HPR.out.pseg (by omega)) HRI.out).mono ?_);rintro e w6 ⟨rfl,hb6⟩;have HB6:=hid (Zac HB5.out hb6);have HG6:=hid (HG5.out.below hb6 HG5.out.lt);have HA6:=hid (HA5.out.below hb6 HA5.out.lt);have HPR6:=hid (HPR.out.below hb6);have HRI6:=hid (HRI.out.below hb6);have c0:=HG6.out.cell 0;clear a0 a1 a2 a3 a4 hb6 HG5 HA5 HPR HRI HB5)
  |(go_at_call 214;(with_reducible refine(hnew.out _).mono ?_);rintro e w7 ⟨g,gb,rfl,hsum,hg1,hg2,hb7⟩;have HS7:=hid hsum;have HB7:=hid hb7;have hA7:=HA6.out.below hb7 HA6.out.lt;have b4:=hA7.cell 4;clear hsum hb7 hA7 c0))
 have HA7:=hid (HA6.out.below HB7.out HA6.out.lt);have hz6:=HB6.out.size;have HDD:=hid (HD.out.below HB6.out);have HSS:=hid (HLS.out.below HB6.out);clear HD HLS hne hlk hof hnew hk HG6 HG1 HP1 HB1 HG0 HP0 hb0 b4;go_loopw [56] (fun t wr=>∃k:Nat,k≤L.length/\t=O Z k/\SumAt wr g gb 128 (xorUp (addsOf L ls ps) k) k/\Below w6.heap.size w6 wr) (fun t _=>L.length-(intOf t).toNat);case atStart=>exact⟨0,by omega,rfl,HS7.out,HB7.out⟩
 case round=>
  obtain⟨k,hk',rfl,hs,hbw⟩:=hrel;have HS:=hid hs;have HBW:=hid hbw;clear hs HS7 HB7 HA7;by_cases hkn:k<L.length
  ·have K1:Hid (k+1≤L.length):=hkn
   obtain⟨b,o,rfl,hlt,hx⟩:=(HRI6.out.below hbw).full (by omega);have c0:=hx k hkn;obtain⟨hm1,hm2⟩:=HLR.out _ (Zj hkn);have hgd:L.getD k 0=L[k]'hkn:=by rw[Zi,Zh hkn];rfl
   have hadd:Hid (addsOf L ls ps k=ls.getD (L.getD k 0) []):=by unfold addsOf;exact Zf hkn
   rw[<-hgd]at c0 hm1 hm2;generalize hmm:L.getD k 0=m at*;have hls:=HLM.out;obtain⟨sb,so,sc',hve,hslt,hsx⟩:=Segs.full (HSS.out.below hbw) (by omega);simp only [Zn]at hve;obtain⟨rfl,-,rfl⟩:=hve;obtain⟨u,d0,hu⟩:=hsx m (by omega);have hgl:ls.getD m []=ls[m]'(by omega):=by rw[Zi,Zh (by omega)];rfl
   rw[<-hgl]at hu;obtain⟨b6,o6,c6,hv6,hb6,-⟩:∃b6 o6 c6,u=Zt (some ⟨b6,o6,none⟩) (ls.getD m []).length c6/\b6<w6.heap.size/\True:=by
    obtain⟨sb',so',sc'',hve',hslt',hsx'⟩:=Segs.full HSS.out (by omega);simp only [Zn,Zg,Addr.mk.injEq,and_true]at hve';obtain⟨⟨rfl,rfl⟩,-,rfl⟩:=hve';obtain⟨u',e1,e2⟩:=hsx' m (by omega);have e3:=(hbw.cell (p:=⟨sb,so+m,none⟩) hslt').trans e1;rw[d0]at e3;simp only [Zg]at e3;rw[e3];rw[<-hgl]at e2;obtain⟨b6,o6,c6,h1,h2,-⟩:=Seg.full e2 (by omega);exact⟨b6,o6,c6,h1,h2,trivial⟩
   subst hv6;have hAdd:=hid (Zne g gb 128 _ k (Zt (some ⟨b6,o6,none⟩) (ls.getD m []).length c6) (ls.getD m []) wr HS.out (by omega) hu hm2 (fun a q c hv=>by simp only [Zn,Zg]at hv;rw[<-hv.1];show b6≠gb;omega) (by omega) (by omega));rw[hm2]at d0 hAdd;have hk0:(0:Int)≤(m:Int):=Int.natCast_nonneg _;have hk1:(m:Int)<(M:Int):=by omega
   clear hx hsx hu hgl hgd;as_aux_lemma=>
    go_wp2_with (go_at_call 215;(with_reducible refine hAdd.out.mono ?_);rintro e w8 ⟨rfl,hs8,hc8⟩);refine⟨⟨k+1,K1.out,by go_num,?_,Chg.own HBW.out hc8 (fun q hq=>by rcases hq with rfl|rfl<;>assumption)⟩,by simp[intOf];omega⟩;have e1:xorUp (addsOf L ls ps) (k+1)=fun i=>xorUp (addsOf L ls ps) k i^^^(ls.getD m []).getD i 0:=by
     funext i;show _^^^(addsOf L ls ps k).getD i 0=_
     rw[hadd.out]
    rw[e1];exact hs8
  ·obtain rfl:k=L.length:=by omega
   have hA8:=HA6.out.below hbw HA6.out.lt;have b3:=hA8.cell 3;clear hbw hA8;go_wp2;clear b3;obtain⟨F,hF⟩:∃F,F=addsOf L ls ps:=⟨_,rfl⟩;rw[<-hF]at HS;have hFps:Hid (∀j,F (L.length+j)=(ps.getD j pat0).d):=fun j=>by rw[hF];unfold addsOf;rw[Ze (by omega)];congr 2;omega
   have HPL:=hid HPR6.out;clear HLR HLM HSS HRI6;generalize hnl:L.length=nl at*;go_loopw [18,72] (fun v t wr=>∃k:Nat,k≤ps.length/\t=O Z k/\SumAt wr g gb 128 (xorUp F (nl+k)) (nl+k:Nat)/\ORow wr w.heap.size v (outX d ps dv k)/\(∀q,v.ownBlock=some q->w6.heap.size≤q)/\Below w6.heap.size w6 wr) (fun _ t _=>ps.length-(intOf t).toNat);case atStart=>exact⟨0,by omega,rfl,HS.out,ORow.nil _ _,fun q hq=>by simp[Value.ownBlock]at hq,HBW.out⟩
   case round=>
    obtain⟨k,hk2,rfl,hs,ho,hvq,hbw⟩:=hrel;have HVQ:=hid hvq;have HS2:=hid hs;have HO2:=hid ho;have HBW2:=hid hbw;clear hs ho hvq HS HBW;by_cases hkn2:k<ps.length
    ·have K1:Hid (k+1≤ps.length):=hkn2
     obtain⟨gq,cq,hve,hlt,p0,p1,p2⟩:=(HPR6.out.below hbw).cells k hkn2;simp only [Zn,true_and]at hve;obtain⟨rfl,rfl⟩:=hve;have hm0:0≤(ps.getD k pat0).m:=by rw[Zbx ps k hkn2];exact HO.out.lo _ (Zj hkn2)
     have hm1:(ps.getD k pat0).m<(M:Int):=by rw[Zbx ps k hkn2];exact HO.out.hi _ (Zj hkn2)
     have hl128:=HPR6.out.len k hkn2;obtain⟨m,hme⟩:=Int.eq_ofNat_of_zero_le hm0;have hst:=Zsl (d:=d) hme;have hos:=hid (Zrl d ps dv k);have hol:=Zhh d ps dv k;have hdat:=(HPR6.out.below hbw).dat k hkn2;obtain⟨gd,cd,hdv,-,hgd⟩:=Zas hdat (by omega);have hgd6:gd<w6.heap.size:=by
      have:=HPR6.out.dat k hkn2;exact(this.lt gd (by rw[hdv];rfl)).2
     have hseg:Seg wr (Zt (some ⟨gd,0,none⟩) 128 cd) (ps.getD k pat0).d:=by
      have h:=Zao (w:=wr) (v:=dv k) (l:=(ps.getD k pat0).d) (by rw[hl128];exact hdat);rw[hdv]at h;exact h
     rw[hdv]at p2;have hfk:=hFps.out k;obtain⟨db,do',dc,rfl,hdlt,hdx⟩:=(HDD.out.below hbw).full (by omega);have hdm:=hdx m (by omega);rw[hme]at p0;generalize hxr:(ps.getD k pat0).r=xr at*;have HALW:Hid (Below wr.heap.size wr (wr.alloc (Zv #[O Z m,O Z xr,Zt (some ⟨gd,0,none⟩) 128 cd] 167))):=(Zb _ _).alloc (Za _) _;have hAdd:=hid (Zne g gb 128 _ (nl+k:Nat) (Zt (some ⟨gd,0,none⟩) 128 cd) (ps.getD k pat0).d (wr.alloc (Zv #[O Z m,O Z xr,Zt (some ⟨gd,0,none⟩) 128 cd] 167)) (HS2.out.mod (S:=fun _=>False) ((Zl _ _).alloc _) (fun h=>h) (fun h=>h)) (by omega) (hseg.below HALW.out) hl128 (fun a q c hv=>by simp only [Zn,Zg]at hv;rw[<-hv.1];show gd≠gb;omega) (by omega) (by omega));have hFk1:Hid (xorUp F (nl+(k+1))=fun i=>xorUp F (nl+k) i^^^(ps.getD k pat0).d.getD i 0):=by
      funext i;show _^^^(F (nl+k)).getD i 0=_
      rw[hfk];rfl
     have HTA:Hid (At (wr.alloc (Zv #[O Z m,O Z xr,Zt (some ⟨gd,0,none⟩) 128 cd] 167)) wr.heap.size #[O Z m,O Z xr,Zt (some ⟨gd,0,none⟩) 128 cd] 167):=At.new _ _ _;have hwz:=hbw.size;have hgw:¬(wr.heap.size=g\/wr.heap.size=gb):=by
      have:=HS2.out.sum.lt;have:=HS2.out.row.lt;omega
     have hdb6:Hid (∀q,q=g\/q=gb->w6.heap.size≤q):=fun q hq=>by rcases hq with rfl|rfl<;>assumption
     have hds:Hid (∀j,j<ps.length->∀q,(dv j).ownBlock=some q->q<w6.heap.size):=fun j hj q hq=>((HPR6.out.dat j hj).lt q hq).2
     have hfg:Hid (∀w8,Chg (fun q=>q=g\/q=gb) (wr.alloc (Zv #[O Z m,O Z xr,Zt (some ⟨gd,0,none⟩) 128 cd] 167)) w8->ORow w8 w.heap.size u18 (outX d ps dv k)):=fun w8 hc8=>by
      refine(HO2.out.below HALW.out).mod hc8 (fun q hq e=> ?_) (fun x hx q hq e=> ?_)
      ·rcases e with rfl|rfl
       ·exact Zah HO2.out.row HS2.out.sum (by decide) hq
       ·exact Zah HO2.out.row HS2.out.row (by decide) hq
      ·obtain⟨j,hj,rfl⟩:=Zg4 hx
       have h1:=hds.out j (by omega) q hq;have h2:=hdb6.out q e;omega
     have hdk:Hid (∀w8,Chg (fun q=>q=g\/q=gb) (wr.alloc (Zv #[O Z m,O Z xr,Zt (some ⟨gd,0,none⟩) 128 cd] 167)) w8->w8.ownsRow w.heap.size 5 1 (dv k) 128 (ucells (ps.getD k pat0).d)):=fun w8 hc8=>by
      refine Zad (Zaf hdat HALW.out (Za _)) hc8 (fun q hq e=> ?_);have h1:=hds.out k hkn2 q hq;have h2:=hdb6.out q e;omega
     have hmM:(m:Int)<(M:Int):=by rw[<-hme];exact hm1
     have hmZ:(0:Int)≤(m:Int):=Int.natCast_nonneg _;have hmany:((nl+(k+1):Nat):Int)=((nl+k:Nat):Int)+1:=by omega
     clear hdx hseg hfk hm0 hm1;cases hdq:d m
     ·rw[hdq]at hdm hst
      simp only [Bool.not_false]at hst;rw[hst]at hos;simp only [if_true]at hos
      go_wp2_with (first
       |(go_at_call 215;(with_reducible refine hAdd.out.mono ?_);rintro e w8 ⟨rfl,hs8,hc8⟩;have hT8:=HTA.out.mod hc8 hgw;have t0:=hT8.cell 0;have dm8:w8.cell? ⟨db,do'+m,none⟩=some (.bool false):=(hc8.cell (p:=⟨db,do'+m,none⟩) (by rw[Zaa];exact Nat.lt_succ_of_lt hdlt) (fun e=>by have h1:=hdb6.out db e;have h2:=HDD.out;obtain⟨b',o',c',hv',hl',-⟩:=h2.full (by omega);simp only [Zn,Zg,Addr.mk.injEq,and_true]at hv';omega)).trans ((World.cell?_alloc_lt _ _ (a:=⟨db,do'+m,none⟩) hdlt).trans hdm);have t1:=hT8.cell 1;have t2:=hT8.cell 2;have HS8:=hid hs8;have HC8:=hid hc8;have HR8:=hid ((hfg.out w8 hc8).below ((Zb w8.heap.size w8).alloc (Za _) (Zv #[O Z m,O Z xr,Zt (some ⟨gd,0,none⟩) 128 cd] 167)));have HNEW:=hid (Ze5 w8 (O Z m) (O Z xr) (Zt (some ⟨gd,0,none⟩) 128 cd) 167);have hw8:=hc8.size;rw[Zaa]at hw8;clear hs8 hT8 hc8)
       |(refine Zar rfl _ _ 114 167 3 40 rfl Zdi w.heap.size u18 (outX d ps dv k).length _ rfl HR8.out.row _ 1 1 [O Z m,O Z xr,Zt (some ⟨gd,0,none⟩) 128 cd] rfl rfl (HNEW.out _ rfl) (by intro u hu;simp at hu;rcases hu with rfl|rfl|rfl<;>rfl) (by unfold maxLen;omega) (by omega) (by rw[Zaa];omega) (by omega) ?_;intro v' w9 hrow9 hvb9 hc9 hkk9;clear hkk9;have HROW9:=hid hrow9;have HC9:=hid hc9;clear hrow9 hc9))
      have hal:Chg (fun _=>False) w8 (w8.alloc (Zv #[O Z m,O Z xr,Zt (some ⟨gd,0,none⟩) 128 cd] 167)):=(Zl _ _).alloc _;have hsA:=HS8.out.mod hal (fun h=>h) (fun h=>h);refine⟨⟨k+1,K1.out,by go_num,?_,?_,fun q hq=> ?_,?_⟩,by simp[intOf];omega⟩
      ·rw[hFk1.out,hmany]
       exact hsA.mod HC9.out (Zah HR8.out.row hsA.sum (by decide)) (Zah HR8.out.row hsA.row (by decide))
      ·rw[hos.out]
       refine HR8.out.snoc HC9.out ((hdk.out w8 HC8.out).alloc _) (fun y hy q hq=> ?_) ?_
       ·obtain⟨j,hj,rfl⟩:=Zg4 hy
        exact HPR6.out.apart j k hj hkn2 q hq
       ·have e:opCells (ps.getD k pat0,dv k)= [O Z m,O Z xr,Zt (some ⟨gd,0,none⟩) 128 cd]:=by
         unfold opCells;simp only [hme,hxr,hdv];try rfl
        rw[e];exact HROW9.out
      ·rcases hvb9 with h|h
       ·exact HVQ.out q (by rw[<-h];exact hq)
       ·rw[h]at hq
        simp only [Zg]at hq;rw[<-hq,Zaa];omega
      ·have hb8:Below w6.heap.size w6 w8:=Chg.own (HBW2.out.alloc HBW2.out.size _) HC8.out hdb6.out
       exact Chg.own (hb8.alloc hb8.size _) HC9.out (fun q hq=>HVQ.out q hq)
     ·rw[hdq]at hdm hst
      simp only [Bool.not_true]at hst;rw[hst]at hos;simp only [Bool.false_eq_true,if_false]at hos;go_wp2_with (go_at_call 215;(with_reducible refine hAdd.out.mono ?_);rintro e w8 ⟨rfl,hs8,hc8⟩;have hT8:=HTA.out.mod hc8 hgw;have t0:=hT8.cell 0;have dm8:w8.cell? ⟨db,do'+m,none⟩=some (.bool true):=(hc8.cell (p:=⟨db,do'+m,none⟩) (by rw[Zaa];exact Nat.lt_succ_of_lt hdlt) (fun e=>by have h1:=hdb6.out db e;have h2:=HDD.out;obtain⟨b',o',c',hv',hl',-⟩:=h2.full (by omega);simp only [Zn,Zg,Addr.mk.injEq,and_true]at hv';omega)).trans ((World.cell?_alloc_lt _ _ (a:=⟨db,do'+m,none⟩) hdlt).trans hdm);have HS8:=hid hs8;have HC8:=hid hc8;clear hs8 hT8 hc8);refine⟨⟨k+1,K1.out,by go_num,?_,?_,HVQ.out,Chg.own (HBW2.out.alloc HBW2.out.size _) HC8.out hdb6.out⟩,by simp[intOf];omega⟩
      ·rw[hFk1.out,hmany]
       exact HS8.out
      ·rw[hos.out]
       exact hfg.out w8 HC8.out
    ·obtain rfl:k=ps.length:=by omega
     have hA9:=HA6.out.below HBW2.out HA6.out.lt;have x0:=hA9.cell 0;have x2:=hA9.cell 2;have HA9:=hid hA9;obtain⟨db,do',dc,rfl,hdlt,hdx⟩:=(HDD.out.below HBW2.out).full (by omega);have hdm:=hdx par hpl;have hpM:(par:Int)<(M:Int):=by omega
     have hpZ:(0:Int)≤(par:Int):=Int.natCast_nonneg _;have hol:=Zhh d ps dv ps.length;have hwz:=HBW2.out.size;have hmap:(outX d ps dv ps.length).map (·.1)=(whichTo (stays d ps) ps.length).map (fun j=>ps.getD j pat0):=by
      unfold outX;rw[List.map_map];rfl
     clear hdx hA9 hbw;cases hdq:d par
     ·rw[hdq]at hdm
      have hds:Hid (∀j,j<ps.length->∀q,(dv j).ownBlock=some q->q<w6.heap.size):=fun j hj q hq=>((HPR6.out.dat j hj).lt q hq).2
      have HXV:=hid (fun (W:World) (hW:SumAt W g gb 128 (xorUp F (nl+ps.length)) (nl+ps.length:Nat))=>Zma g gb 128 _ _ W hW (by omega));have HSD:Hid (SumAt wr.drew g gb 128 (xorUp F (nl+ps.length)) (nl+ps.length:Nat)):=HS2.out.mod (S:=fun _=>False) ((Zl _ _).drew) (fun h=>h) (fun h=>h);have HOD:Hid (ORow wr.drew w.heap.size u18 (outX d ps dv ps.length)):=HO2.out.below (Zb _ _).drew;have HAD:Hid (At wr.drew w4.heap.size #[O Z r,.int .u8 md,O Z par,Zt qa' ps.length qc',Zt ra' nl rc'] 217):=HA9.out.drew;have HH:Hid (∀X,At X w4.heap.size #[O Z r,.int .u8 md,O Z par,Zt qa' ps.length qc',Zt ra' nl rc'] 217->X.cell? ⟨w4.heap.size,0,none⟩=some (O Z r)/\X.cell? ⟨w4.heap.size,2,none⟩=some (O Z par)):=fun X h=>⟨h.cell 0,h.cell 2⟩
      go_wp2;clear x0 x2 hdm;go_region_held3 (fun w'=>w'.cell? ⟨w4.heap.size,0,none⟩=some (O Z r)/\w'.cell? ⟨w4.heap.size,2,none⟩=some (O Z par))
       (first|with_reducible exact HH.out _ HA9.out|with_reducible exact HH.out _ HAD.out|with_reducible exact HH.out _ HAE.out|with_reducible exact HH.out _ HAF.out|with_reducible exact HH.out _ HAG.out)
       (first
        |(go_at_call 216;(with_reducible refine(HXV.out _ HSD.out).mono ?_);rintro e w9 ⟨vs,rfl,hvs,hb9⟩;obtain⟨gs,cs,rfl,hgs1,hgs2⟩:=Zas hvs (by omega);have HAE:=hid (HAD.out.below hb9 HAD.out.lt);have HAF:=hid (HAE.out.alloc (Zv #[O Z par,O Z r,Zt (some ⟨gs,0,none⟩) 128 cs] 167));have hO9:=(HOD.out.below hb9).below ((Zb w9.heap.size w9).alloc (Za _) (Zv #[O Z par,O Z r,Zt (some ⟨gs,0,none⟩) 128 cs] 167));have hs9:=hb9.size;have HVS:=hid hvs;have HO9:=hid hO9;have HB9:=hid hb9;have HNEW:=hid (Ze5 w9 (O Z par) (O Z r) (Zt (some ⟨gs,0,none⟩) 128 cs) 167);clear hvs hO9 hb9)
        |(rw[Zf (by rfl)];refine Zia _ _ 114 167 3 40 rfl Zdi w.heap.size u18 (outX d ps dv ps.length).length _ rfl HO9.out.row _ 1 1 [O Z par,O Z r,Zt (some ⟨gs,0,none⟩) 128 cs] rfl rfl (HNEW.out _ rfl) (by intro u hu;simp at hu;rcases hu with rfl|rfl|rfl<;>rfl) (by unfold maxLen;omega) (by omega) (by rw[Zaa];have:wr.drew.heap.size=wr.heap.size:=rfl;omega) (by omega) ?_;intro v' w10 hrow10 hvb10 hc10;have HAG:=hid (HAF.out.mod hc10 (Zah HO9.out.row HAF.out (by decide)));have HROW10:=hid hrow10;have HVB10:=hid hvb10;have HC10:=hid hc10;clear hrow10 hvb10 hc10))
      obtain⟨va,vc,rfl⟩:=Zab HROW10.out;have hs9':wr.heap.size≤w9.heap.size:=HB9.out.size;have hO10:ORow w10 w.heap.size (.slice va ((outX d ps dv ps.length).length+1) vc) (outX d ps dv ps.length++ [(⟨par,r,sumL (xorUp F (nl+ps.length)) 128⟩,Zt (some ⟨gs,0,none⟩) 128 cs)]):=by
       refine HO9.out.snoc HC10.out ((Zan HVS.out (by show w.heap.size≤wr.heap.size;omega)).alloc _) (fun y hy q hq e=> ?_) HROW10.out;obtain⟨j,hj,rfl⟩:=Zg4 hy;have h1:=hds.out j hj q hq;simp only [Value.ownBlock,Zg]at e;have h2:wr.heap.size≤gs:=hgs1;omega
      have HSO:=hid (Zsw hO10 (by rw[Zo];simp) (by rw[Zo];simp;omega) (fun x hx=>by
       rcases List.mem_append.1 hx with hx|hx
       ·obtain⟨j,hj,rfl⟩:=Zg4 hx
        show 0≤(ps.getD j pat0).m/\(ps.getD j pat0).m<64
        rw[Zbx ps j hj]
        have h1:=HO.out.lo _ (Zj hj)
        have h2:=HO.out.hi _ (Zj hj)
        omega
       ·obtain rfl:x=_:=by simpa using hx
        show 0≤(par:Int)/\(par:Int)<64
        omega))
      have HB10:Hid (Below w.heap.size w w10):=Chg.own ((Zac (Zac HB6.out HBW2.out) ((Zb wr.heap.size wr).drew.trans HB9.out)).alloc (by omega) _) HC10.out (fun q hq=>Zc hz6 (HVQ.out q hq));have HVQ10:Hid (∀q,(Value.slice va ((outX d ps dv ps.length).length+1) vc).ownBlock=some q->w.heap.size≤q):=fun q hq=>(hO10.row.lt q hq).1
      clear hO10;generalize hlen:(outX d ps dv ps.length).length+1=n1 at*;go_wp2_with (go_at_call 217;(with_reducible refine HSO.out.mono ?_);rintro e w11 ⟨rfl,X',hX,hXs,hO11,hc11⟩;have HO11:=hid hO11;clear hO11);go_ret2;refine⟨_,X',rfl,HO11.out,?_,hXs,Chg.own HB10.out hc11 HVQ10.out⟩;subst hnl;subst hF;unfold outPats;rw[hdq,Ze (by simp),<-hmap];have:=hX.map (·.1);rw[List.map_append]at this;exact this
     ·rw[hdq]at hdm
      go_wp2;go_ret2;refine⟨_,_,rfl,HO2.out,?_,Zvu HO.out dv,Zac HB6.out HBW2.out⟩;unfold outPats;rw[hmap,hdq,Zf rfl,List.append_nil]
end Go.Proofs.YtmemlkmnhcealaaGreat
