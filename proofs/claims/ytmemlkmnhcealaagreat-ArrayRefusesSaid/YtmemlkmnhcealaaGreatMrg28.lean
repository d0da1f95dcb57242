
/- Several texts in one: RwU, RwV, WalJ. -/
import Derived.Test.YtmemlkmnhcealaaGreatRwT
set_option linter.unusedVariables false
set_option maxRecDepth 100000
set_option maxHeartbeats 16000000
namespace Go.Proofs.YtmemlkmnhcealaaGreat
open Value renaming int→O
open IntKind renaming i64→Z
open Obj renaming cells→Zv
open Go.RowKit
open Lib(hid)
variable {A:Adr} {s:BaySt} {us:List (Int×List UInt8)} {X:List OP} {b:Nat} {T sz:Nat->Nat} {G:Nat->Prop} {lg:Option Nat} {R:RS} {vw:Value} {W w:World}
noncomputable def zOf(R:RS)(r:Nat):Int:=Classical.choose (Zoc (fun m=>R.dn m r) R.M)
theorem Zoe(R:RS)(r:Nat):GoneIs (fun m=>R.dn m r) R.M (zOf R r):=Classical.choose_spec (Zoc (fun m=>R.dn m r) R.M)
def batRows(R:RS)(us:List (Int×List UInt8)):List Nat:=rowsIn R.M (R.S*R.C) (tabAll R.M R.C us)
def batPats(R:RS)(us:List (Int×List UInt8))(r:Nat):List Pat:=patsIn R.M (tabAll R.M R.C us) r
noncomputable def batRds(R:RS)(us:List (Int×List UInt8))(r:Nat):List Nat:=rdsOf R (batPats R us r) r (zOf R r)
noncomputable def batOut(R:RS)(V:Nat->Nat->Sec)(us:List (Int×List UInt8))(r:Nat):List Pat:=outOf R V (batPats R us r) r (zOf R r)
noncomputable def batAll(R:RS)(V:Nat->Nat->Sec)(us:List (Int×List UInt8))(k:Nat):List Pat:=((batRows R us).take k).flatMap (batOut R V us)
noncomputable def batCnt(R:RS)(us:List (Int×List UInt8))(k:Nat):Nat:=(((batRows R us).take k).map fun r=>R.rcs r (batRds R us r)).sum
theorem Zlo(R:RS)(V:Nat->Nat->Sec)(ps:List Pat)(r:Nat)(z:Int):(outOf R V ps r z).length≤ps.length+1:=by
 unfold outOf outPats;rw[Zo,Zp];have h1:=Za7 (stays (fun m=>R.dn m r) ps) ps.length;split
 ·simp;omega
 ·simp;omega
theorem Zon(f:Nat->List Pat)(g:Nat->Nat):∀(l:List Nat),(∀r∈l,(f r).length≤g r+1)->(l.flatMap f).length≤(l.map g).sum+l.length
 | [],_=>by simp
 |a::l,h=>by
  have ih:=Zon f g l (fun r hr=>h r (List.mem_cons_of_mem _ hr));have h1:=h a List.mem_cons_self;rw[List.flatMap_cons,Zo,List.map_cons,List.sum_cons,List.length_cons];omega
theorem Zuu(g:Nat->Nat)(l:List Nat)(k:Nat):((l.take k).map g).sum+(l.take k).length≤(l.map g).sum+l.length:=by
 have h:l=l.take k++l.drop k:=(List.take_append_drop k l).symm;have h1:(l.map g).sum=((l.take k).map g).sum+((l.drop k).map g).sum:=by
  conv=>lhs;rw[h]
  rw[List.map_append,List.sum_append]
 have h2:l.length=(l.take k).length+(l.drop k).length:=by
  conv=>lhs;rw[h]
  rw[Zo]
 omega
theorem Zeo(R:RS)(us:List (Int×List UInt8))(r:Nat):(batPats R us r).length=(membsIn R.M (tabAll R.M R.C us) r).length:=by
 unfold batPats patsIn;rw[Zp]
theorem Zck(R:RS)(V:Nat->Nat->Sec)(us:List (Int×List UInt8))(k:Nat):(batAll R V us k).length≤mostIn R.M (R.S*R.C) (tabAll R.M R.C us):=by
 have h1:=Zon (batOut R V us) (fun r=>(membsIn R.M (tabAll R.M R.C us) r).length) ((batRows R us).take k) (fun r hr=>by
  have:=Zlo R V (batPats R us r) r (zOf R r)
  rw[Zeo]at this
  exact this)
 have h2:=Zuu (fun r=>(membsIn R.M (tabAll R.M R.C us) r).length) (batRows R us) k;exact Zc h1 h2
theorem Zob(R:RS)(V:Nat->Nat->Sec)(us:List (Int×List UInt8))(k:Nat)(hk:k<(batRows R us).length):batAll R V us (k+1)=batAll R V us k++batOut R V us ((batRows R us)[k]):=by
 unfold batAll;rw[List.take_succ_eq_append_getElem hk,List.flatMap_append];simp
theorem Zhj(R:RS)(us:List (Int×List UInt8))(k:Nat)(hk:k<(batRows R us).length):batCnt R us (k+1)=batCnt R us k+R.rcs ((batRows R us)[k]) (batRds R us ((batRows R us)[k])):=by
 unfold batCnt;rw[List.take_succ_eq_append_getElem hk,List.map_append,List.sum_append];simp
theorem Zle(R:RS)(ps:List Pat)(r:Nat)(z:Int):(rdsOf R ps r z).length≤R.M:=Zde ps (parOf R.M R.C r) R.M (modeOf R.M ps (parOf R.M R.C r) z)
theorem Zd0(R:RS)(us:List (Int×List UInt8)):∀k,batCnt R us k≤k*(R.M*(R.M+1))
 |0=>by simp[batCnt]
 |k+1=>by
  by_cases hk:k<(batRows R us).length
  ·rw[Zhj R us k hk,Nat.add_mul,Nat.one_mul]
   have h1:=Zd0 R us k;have h2:=R.rcs_le ((batRows R us)[k]) (batRds R us ((batRows R us)[k]));have h3:(batRds R us ((batRows R us)[k])).length*(R.M+1)≤R.M*(R.M+1):=Nat.mul_le_mul_right _ (Zle R _ _ _);omega
  ·have e:batCnt R us (k+1)=batCnt R us k:=by
    unfold batCnt;rw[List.take_of_length_le (by omega),List.take_of_length_le (by omega)]
   rw[e];exact Zc (Zd0 R us k) (Nat.mul_le_mul_right _ (by omega))
theorem RS.rcs_s(R:RS)(s':BaySt)(r:Nat)(L:List Nat):({R with s:=s'}:RS).rcs r L=R.rcs r L:=by
 unfold RS.rcs;congr 1;exact List.map_congr_left fun m _=>R.rc_s s' m r
theorem Zdn{r:Nat}(h:r∈batRows R us):r<R.S*R.C/\hasRow R.M (tabAll R.M R.C us) r=true:=Zbd.1 h
theorem Zcy(h:us.length≤256):(batRows R us).length≤512:=by
 have h1:=Zc2 (M:=R.M) (C:=R.C) (S:=R.S) h;unfold mostIn at h1;have:(batRows R us).length=(rowsIn R.M (R.S*R.C) (tabAll R.M R.C us)).length:=rfl;omega
theorem RowsAt.tmod{S:Nat->Prop}{W':World}{B:Nat}{v:Value}{L:List (Value×List OP)}(h:RowsAt W B v L)(hc:Chg S W W')(h1:∀g,v.ownBlock=some g->¬S g)(h2:∀x∈L,∀g,x.1.ownBlock=some g->¬S g)(h3:∀x∈L,∀y∈x.2,∀g,y.2.ownBlock=some g->¬S g):RowsAt W' B v L:=
 ⟨Zad h.row hc h1,fun x hx=>(h.each x hx).mod hc (h2 x hx) (h3 x hx)⟩
open Go.RowKit
structure WkAt (w wr:World) (T:Nat->Nat) (A:Adr) (R:RS) (lg:Option Nat) (vw:Value) (X:List OP) (bp:Nat) (pv rv xv:Value) (XS:List OP):Prop where
 rw:RwIn wr T A R lg vw X
 bat:At wr bp (batCells A pv rv xv) 120
 xs:ORow wr w.heap.size xv XS
 box:At wr w.heap.size #[O Z 0,.int .u16 0] 76
 chg:Chg (fun q=>T q≠0\/q=bp) w wr
theorem WkAt.below{wr wy:World}{bp:Nat}{pv rv xv:Value}{XS:List OP}(h:WkAt w wr T A R lg vw X bp pv rv xv XS)(hb:Below wr.heap.size wr wy):WkAt w wy T A R lg vw X bp pv rv xv XS:=
 ⟨h.rw.below hb,h.bat.below hb h.bat.lt,h.xs.below hb,h.box.below hb h.box.lt,h.chg.trans (Zm hb _)⟩
structure RowsT (T:Nat->Nat) (rv:Value) (L:List (Value×List OP)):Prop where
 row:∀g,rv.ownBlock=some g->T g=0
 each:∀x∈L,∀g,x.1.ownBlock=some g->T g=0
 dat:∀x∈L,∀y∈x.2,∀g,y.2.ownBlock=some g->T g=0
theorem Zum{V:Nat->Nat->Sec}(h:RwIn w T A R lg vw X)(hs:Sound R V)(bp:Nat)(pv rv:Value)(hb:At w bp (batCells A pv rv (.slice none 0 0)) 120)(tb:T bp=0)(us:List (Int×List UInt8))(ok:BatchOk R.M R.C R.S us)(N:Nat)(L:List (Value×List OP))(hL:RowsAt w N rv L)(hNT:RowsT T rv L)(hSI:SplitIs R.M R.C R.S us L)(hcnt:R.s.cnt 0≤999996000000)(hsm:R.s.small 1000000):
  Calls Tryz.prog 57 #[.pointer (some ⟨bp,0,none⟩)] w fun e w'=>e=.returned (.agg #[O Z 0,.int .u16 0])/\∃xv XS,RwIn w' T A {R with s:=R.s.ticks 0 (batCnt R us (batRows R us).length)} lg vw X/\At w' bp (batCells A pv rv xv) 120/\ORow w' w.heap.size xv XS/\(XS.map (·.1)).Perm (batAll R V us (batRows R us).length)/\Chg (fun q=>T q≠0\/q=bp) w w':=by
 have hb0:Below w.heap.size w (w.alloc (Zv #[O Z 0,.int .u16 0] 76)):=(Zb _ _).alloc (Za _) _;have hvirg:∀q,w.heap.size≤q->T q=0:=fun q hq=>Zae h.bay q hq
 have hM:R.M≤16:=(Zbe hs.geo).2.1;have hLL:L.length=(batRows R us).length:=by
  have:=congrArg List.length hSI;rw[Zp,Zp]at this;exact this
 have hLk:∀k (hk:k<L.length),(L[k]'hk).2.map (·.1)=batPats R us ((batRows R us)[k]'(hLL ▸ hk)):=fun k hk=>by
  have e:L.map (fun x=>x.2.map (·.1))=(batRows R us).map (batPats R us):=hSI;have h1:=congrArg (fun l:List (List Pat)=>l[k]?) e;simp only [List.getElem?_map]at h1;rw[Zh hk,Zh (hLL ▸ hk)]at h1;simpa using h1
 have hrf:(batRows R us).length≤512:=Zcy ok.few;have hmf:=Zc2 (M:=R.M) (C:=R.C) (S:=R.S) ok.few;have hNbp:∀g cs t,At w g cs t->114≠t->167≠t->5≠t->(rv.ownBlock≠some g/\(∀x∈L,x.1.ownBlock≠some g)/\∀x∈L,∀y∈x.2,y.2.ownBlock≠some g):=fun g cs t ha h1 h2 h3=>⟨Zah hL.row ha h1,fun x hx=>Zah (hL.each x hx).row ha h2,fun x hx y hy=>Zah ((hL.each x hx).dat y hy) ha h3⟩
 have HLK:Hid (∀W,Chg (fun q=>T q≠0\/q=bp) w W->RowsAt W N rv L):=fun W hW=>by
  obtain⟨k1,k2,k3⟩:=hNbp bp _ _ hb (by decide) (by decide) (by decide);exact hL.tmod hW (fun g hg e=>e.elim (fun e=>e (hNT.row g hg)) (fun e=>k1 (by rw[hg,e]))) (fun x hx g hg e=>e.elim (fun e=>e (hNT.each x hx g hg)) (fun e=>k2 x hx (by rw[hg,e]))) (fun x hx y hy g hg e=>e.elim (fun e=>e (hNT.dat x hx y hy g hg)) (fun e=>k3 x hx y hy (by rw[hg,e])))
 obtain⟨ra,rc,rfl⟩:=Zab hL.row;have HW0:Hid (WkAt w (w.alloc (Zv #[O Z 0,.int .u16 0] 76)) T A {R with s:=R.s.ticks 0 (batCnt R us 0)} lg vw X bp pv (.slice ra L.length rc) (.slice none 0 0) []):=by
  have e:({R with s:=R.s.ticks 0 (batCnt R us 0)}:RS)=R:=by
   show({R with s:=R.s.ticks 0 0}:RS)=R
   rw[Zei]
  rw[e];exact⟨h.below hb0,hb.below hb0 hb.lt,ORow.nil _ _,At.new _ _ _,Zm hb0 _⟩
 have hvK:∀g,vw.ownBlock=some g->g<w.heap.size:=fun g hg=>(h.wt.row.lt g hg).2
 have c2:(w.alloc (Zv #[O Z 0,.int .u16 0] 76)).cell? ⟨bp,2,none⟩=some (.slice ra L.length rc):=(hb.below hb0 hb.lt).cell 2;have hbplt:=hb.lt;have HS:=hid hs;have HOK:=hid ok;have HVG:=hid hvirg;have HVK:=hid hvK;have HLL:=hid hLL;have HLP:=hid hLk;clear h hs hb hL hNT hSI ok hb0 hvirg hNbp hvK hLk;go_enter Tryz.func57,Tryz.ntmps57;go_wp2;go_loopw [11] (fun q wr=>∃k:Nat,k≤L.length/\q=O Z k/\∃xv XS,WkAt w wr T A {R with s:=R.s.ticks 0 (batCnt R us k)} lg vw X bp pv (.slice ra L.length rc) xv XS/\(XS.map (·.1)).Perm (batAll R V us k)) (fun q _=>L.length-(intOf q).toNat);case atStart=>exact⟨0,by omega,rfl,_,[],HW0.out,by simp[batAll]⟩
 case round=>
  obtain⟨k,hk,rfl,xv,XS,hwk,hper⟩:=hrel;have HWK:=hid hwk;have HPE:=hid hper;clear hwk hper HW0;by_cases hkL:k<L.length
  ·have K1:Hid (k+1≤L.length):=hkL
   have hkr:k<(batRows R us).length:=by omega
   have hra:=HLK.out wr HWK.out.chg;obtain⟨gr,cr,er,hgr1,hgr2,hcr,-⟩:=Zb2 hra.row (by omega);simp only [Zn]at er;obtain⟨rfl,-,rfl⟩:=er;have ck:wr.cell? ⟨gr,k,none⟩=some (L[k]'hkL).1:=by
    rw[hcr k hkL,List.getElem?_map,Zh hkL];rfl
   have hrin:(batRows R us)[k]∈batRows R us:=Zj hkr;obtain⟨hrlt,hhas⟩:=Zdn hrin
   have hps:=(hra.each _ (Zj hkL)).pseg (by
    have h1:=congrArg List.length (HLP.out k hkL)
    rw[Zp,Zeo]at h1
    have h2:(membsIn R.M (tabAll R.M R.C us) ((batRows R us)[k])).length≤R.M:=Za7 _ _
    omega)
   rw[HLP.out k hkL]at hps;have hXf:XS.length≤512:=by
    have h1:=HPE.out.length_eq;have h2:=Zck R V us k;rw[Zp]at h1;omega
   have hcn:(R.s.ticks 0 (batCnt R us k)).cnt 0≤999997000000:=by
    rw[Zb7];have h1:=Zd0 R us k;have h2:R.M*(R.M+1)≤16*17:=Nat.mul_le_mul hM (by omega);have h3:k*(R.M*(R.M+1))≤512*(16*17):=Nat.mul_le_mul (by omega) h2;omega
   have okp:=Zr0 (d:=fun m=>R.dn m ((batRows R us)[k])) HS.out.geo HOK.out.there HOK.out.len (HS.out.lone _ hrlt) hrlt hhas;have hbr:=Zv1 HWK.out.rw (HS.out.ticks _) bp pv (.slice (some ⟨gr,0,none⟩) L.length rc) xv XS w.heap.size HWK.out.bat tb HWK.out.xs HWK.out.chg.size HVG.out (by omega) HVK.out (L[k]'hkL).1 (batPats R us ((batRows R us)[k])) ((batRows R us)[k]) hps okp (zOf R ((batRows R us)[k])) (Zoe R _) hcn hsm;have HBR:Hid (Calls Tryz.prog 104 #[.pointer (some ⟨bp,0,none⟩),(L[k]'hkL).1] wr fun e w'=>e=.returned (.agg #[O Z 0,.int .u16 0])/\∃xv XS,WkAt w w' T A {R with s:=R.s.ticks 0 (batCnt R us (k+1))} lg vw X bp pv (.slice (some ⟨gr,0,none⟩) L.length rc) xv XS/\(XS.map (·.1)).Perm (batAll R V us (k+1))):=by
    refine hbr.mono ?_;rintro e w' ⟨rfl,xv',X2,k1,k2,k3,k4,k5⟩;refine⟨rfl,xv',XS++X2,⟨?_,k2,k3,HWK.out.box.mod k5 ?_,Zaj HWK.out.chg k5 ?_⟩,?_⟩
    ·rw[Zhj R us k hkr,<-Zeu]
     rw[RS.rcs_s]at k1;exact k1
    ·rintro (e|e|e)
     ·exact e (HVG.out _ (Za _))
     ·omega
     ·exact Zah HWK.out.xs.row HWK.out.box (by decide) e
    ·rintro q hq (e|e|e)
     ·exact .inl e
     ·exact .inr e
     ·have:=(HWK.out.xs.row.lt q e).1
      omega
    ·rw[List.map_append,Zob R V us k hkr]
     exact HPE.out.append k4
   clear hra hcr hps okp hbr hrin;obtain⟨la,lc,hle⟩:∃a c,(L[k]'hkL).1=.slice a (L[k]'hkL).2.length c:=Zab ((HLK.out wr HWK.out.chg).each _ (Zj hkL)).row;rw[hle]at ck HBR;generalize (L[k]'hkL).2.length=nl at*;clear hle
   go_wp2_with (first
    |(go_at_call 104;(with_reducible refine HBR.out.mono ?_);rintro e w5 ⟨rfl,xv5,XS5,hw5,hp5⟩;have HW5:=hid (hw5.below ((Zb w5.heap.size w5).alloc (Za _) (Zv #[O Z 0,.int .u16 0] 76)));have HP5:=hid hp5;have hN5:=At.new w5 #[O Z 0,.int .u16 0] 76;have m1:=hN5.cell 1;clear hw5 hp5 hN5))
   exact⟨⟨k+1,K1.out,by go_num,xv5,XS5,HW5.out,HP5.out⟩,by simp[intOf];omega⟩
  ·obtain rfl:k=L.length:=by omega
   have k0:wr.cell? ⟨w.heap.size,0,none⟩=some (O Z 0):=HWK.out.box.cell 0;have k1:wr.cell? ⟨w.heap.size,1,none⟩=some (.int .u16 0):=HWK.out.box.cell 1;have f0:=HWK.out.box.free 0;have f1:=HWK.out.box.free 1;have hF:=(HWK.out.box.set 0 (O Z 0)).set 1 (.int .u16 0);have r0:=hF.cell 0;have r1:=hF.cell 1;have HEND:Hid (∃xv XS,RwIn ((wr.setCell ⟨w.heap.size,0,none⟩ (O Z 0)).setCell ⟨w.heap.size,1,none⟩ (.int .u16 0)) T A {R with s:=R.s.ticks 0 (batCnt R us (batRows R us).length)} lg vw X/\At ((wr.setCell ⟨w.heap.size,0,none⟩ (O Z 0)).setCell ⟨w.heap.size,1,none⟩ (.int .u16 0)) bp (batCells A pv (.slice ra L.length rc) xv) 120/\ORow ((wr.setCell ⟨w.heap.size,0,none⟩ (O Z 0)).setCell ⟨w.heap.size,1,none⟩ (.int .u16 0)) w.heap.size xv XS/\(XS.map (·.1)).Perm (batAll R V us (batRows R us).length)/\Chg (fun q=>T q≠0\/q=bp) w ((wr.setCell ⟨w.heap.size,0,none⟩ (O Z 0)).setCell ⟨w.heap.size,1,none⟩ (.int .u16 0))):=by
    have hk:=HWK.out;have hp:=HPE.out;rw[HLL.out]at hk hp;rw[HLL.out];have h2:=box2 wr w.heap.size (O Z 0) (.int .u16 0);refine⟨xv,XS,hk.rw.box hk.box (HVG.out _ (Za _)) h2,hk.bat.mod h2 (Zaw hk.bat hk.box (by decide)),hk.xs.mod h2 (fun g hg e=>Zah hk.xs.row hk.box (by decide) (by rw[hg,e])) (fun x hx g hg e=>Zah (hk.xs.dat x hx) hk.box (by decide) (by rw[hg,e])),hp,Zaj hk.chg h2 (fun q hq e=>by omega)⟩
   clear hF HWK HPE HLK HLP HOK HS HVG HVK;go_wp2;(try simp only [Exit.inBlock,Exit.then]);refine bodyPost_ret (v:=.agg #[O Z 0,.int .u16 0]) ?_ rfl ⟨rfl,HEND.out⟩;rw[Zai rfl];go_simp;try rfl
open Go.RowKit
def zeroed(s:BaySt)(k:Nat):Nat->BaySt
 |0=>s
 |n+1=>(zeroed s k n).put k (2+n) zsec
def formed(s:BaySt)(k n ep:Nat):BaySt:=((zeroed s k n).put k 1 (recSec 3 ep 1 (leN 0 4))).dried k
structure Zeroed (s s':BaySt) (G:Nat->Prop) (sz:Nat->Nat) (k n:Nat):Prop where
 fit:Fit s' G sz
 n':s'.n=s.n
 c0:s'.cnt 0=s.cnt 0
 c1:s'.cnt 1=s.cnt 1+n
 c2:s'.cnt 2=s.cnt 2
 small:∀m,s.small m->s'.small (m+n)
 pos:∀q,q≠k*3->s'.pos q=s.pos q
theorem Zee{s:BaySt}{G:Nat->Prop}{sz:Nat->Nat}(h:Fit s G sz)(k:Nat)(hk:k<s.n)(hg:G k):∀n,2+n≤sz k->Zeroed s (zeroed s k n) G sz k n
 |0,_=>⟨h,rfl,rfl,by show s.cnt 1=s.cnt 1+((0:Nat):Int);omega,rfl,fun m hm=>hm,fun q _=>rfl⟩
 |n+1,hn=>by
  have ih:=Zee h k hk hg n (by omega);obtain⟨h1,h2⟩:=Zdd ih.fit k (2+n) zsec (by rw[ih.n'];exact hk) hg (by omega) (by simp[zsec]);show Zeroed s ((zeroed s k n).put k (2+n) zsec) G sz k (n+1)
  exact⟨h1,h2.n.trans ih.n',h2.c0.trans ih.c0,by rw[h2.c1,ih.c1];push_cast;omega,h2.c2.trans ih.c2,fun m hm=>by have:=h2.small _ (ih.small m hm);rwa [Nat.add_assoc]at this,fun q hq=>(h2.pos q hq).trans (ih.pos q hq)⟩
theorem Zq9:(List.replicate (128*1) (Value.int .u8 0))=ucells zsec:=by
 unfold ucells zsec;rw[List.map_replicate];rfl
theorem Zu3{w3 W1:World}{slot p ep rp wp g:Nat}(hz:Zeroed s (zeroed s slot p) G sz slot p)(hk:slot<s.n)(hg:G slot)(hsz:2+(p+1)≤sz slot)(hcnt:s.cnt 1≤999999000000)(hm:s.small 900000)(hp:p<4096)(hlt:wp<w3.heap.size)(tw:T wp=0)
  (h:WalPost w3 T b (zeroed s slot p) wp (walCells b slot ep rp 1 true none 0) W) (hb:Below W.heap.size W W1) (hgl:W.heap.size≤g) (ha:At W1 g (ucells zsec).toArray 5):
  Calls Tryz.prog 81 #[.pointer (some ⟨wp,0,none⟩),O Z ((2:Int)+p),.slice (some ⟨g,0,none⟩) 128 128] W1 fun e w'=>e=.returned (.int .u16 0)/\WalPost w3 T b (zeroed s slot (p+1)) wp (walCells b slot ep rp 1 true none 0) w':=by
 obtain⟨T1,k1,k2,k3,k4⟩:=h;have hv:Seg W1 (.slice (some ⟨g,0,none⟩) 128 128) zsec:=by
  refine⟨some ⟨g,0,none⟩,128,rfl,⟨fun h=>(by cases h),by simp[zsec]⟩,.inr ⟨g,0,rfl,ha.lt,fun j hj=> ?_⟩⟩;rw[ha.cell];simp[ucells];exact⟨_,Zh (by simpa [zsec]using hj),rfl⟩
 have hwf:=Zb4 hz.fit slot (2+p) zsec (by rw[hz.n'];exact hk) hg (by omega) (by simp[zsec]);have e2:((2:Int)+p)=((2+p:Nat):Int):=by omega
 rw[e2]
 have hc:=Zhm (k1.below hb) slot ep rp 1 0 wp true none (k4.below hb k4.lt) (by rw[k2 wp hlt];exact tw) (2+p) _ zsec hv (fun a n c e=>by
  simp only [Zn,Zg]at e
  obtain⟨rfl,-,-⟩:=e
  exact Zae k1 g hgl) (by rw[hz.c1];omega) (fun i hi x hx=>Zc (hz.small _ hm i hi x hx) (by omega))
 have ht:tried 0 (zeroed s slot p) ((zeroed s slot p).write slot ((2+p:Nat):Int) zsec)=(0,zeroed s slot (p+1)):=by rw[hwf];rfl
 rw[ht]at hc;refine hc.mono ?_;rintro e w' ⟨rfl,hp'⟩;exact⟨rfl,(hp'.after hb).trans k2 k3⟩
theorem Zp1(h:BayAt w T b s)(slot places epoch:Nat)(hf:Fit s G sz)(hsl:slot<s.n)(hg:G slot)(hz:2+places≤sz slot)(h5:5≤places)(h6:places≤2048)
  (he:epoch≤4611686018427387904) (hcnt:s.cnt 1≤999999000000) (hcnt2:s.cnt 2≤999999000000) (hm:s.small 900000):
  Calls Tryz.prog 44 #[.pointer (some ⟨b,0,none⟩),O Z slot,O Z places,.int .u64 epoch] w fun e w'=>∃wp rp T',e=.returned (.tuple #[.pointer (some ⟨wp,0,none⟩),.int .u16 0])/\w.heap.size≤wp/\w.heap.size≤rp/\T' wp=0/\T' rp=0/\
   BayAt w' T' b (formed s slot places epoch)/\(∀q,q<w.heap.size->T' q=T q)/\Chg (fun q=>T q≠0) w w'/\At w' wp (walCells b slot epoch rp 1 true none 0) 148/\RingAt w' rp places 0 0:=by
 have HB0:Hid (BayAt w T b s):=h;have HZ:Hid (∀p,p≤places->Zeroed s (zeroed s slot p) G sz slot p):=fun p hp=>Zee hf slot hsl hg p (by omega)
 have HSL:=hid hsl;have HG:=hid hg;have HSZ:=hid hz;have HC1:=hid hcnt;have HC2:=hid hcnt2;have HM:=hid hm;have hN:=hsl;clear hf hg hz h hcnt hcnt2 hm hsl;have hle:(places:Int)≤2048:=by omega
 have HRN:Hid (Calls Tryz.prog 80 #[O Z places,O Z 0,O Z 0] w fun e w'=>e=.returned (.tuple #[.pointer (some ⟨w.heap.size,0,none⟩),.int .u16 0])/\w'=w.alloc (Zv #[O Z (places:Int),O Z 0,O Z 0] 190)):=Zr2 places 0 0 w h5 h6 (by omega) (by omega);have e1:(w.alloc (Zv #[O Z (places:Int),O Z 0,O Z 0] 190)).heap.size=w.heap.size+1:=Zaa _ _;have hb3:Below w.heap.size w ((w.alloc (Zv #[O Z (places:Int),O Z 0,O Z 0] 190)).alloc (Zv (walCells b slot epoch w.heap.size 1 true none 0) 148)):=((Zb _ _).alloc (Za _) _).alloc (by rw[e1];omega) _;have HW3:Hid (WalPost ((w.alloc (Zv #[O Z (places:Int),O Z 0,O Z 0] 190)).alloc (Zv (walCells b slot epoch w.heap.size 1 true none 0) 148)) T b (zeroed s slot 0) (w.heap.size+1) (walCells b slot epoch w.heap.size 1 true none 0) ((w.alloc (Zv #[O Z (places:Int),O Z 0,O Z 0] 190)).alloc (Zv (walCells b slot epoch w.heap.size 1 true none 0) 148))):=
  ⟨T,HB0.out.below hb3,fun _ _=>rfl,Zl _ _,by rw[<-e1];exact At.new _ _ _⟩
 have HR3:Hid (RingAt ((w.alloc (Zv #[O Z (places:Int),O Z 0,O Z 0] 190)).alloc (Zv (walCells b slot epoch w.heap.size 1 true none 0) 148)) w.heap.size places 0 0):=(At.new w _ _).alloc _;have HT1:Hid (T (w.heap.size+1)=0):=Zae HB0.out _ (by omega);have HT0:Hid (T w.heap.size=0):=Zae HB0.out _ (by omega);have hlt3:w.heap.size+1<((w.alloc (Zv #[O Z (places:Int),O Z 0,O Z 0] 190)).alloc (Zv (walCells b slot epoch w.heap.size 1 true none 0) 148)).heap.size:=by rw[Zaa,e1];omega
 obtain⟨w3,hw3⟩:∃w3,w3=((w.alloc (Zv #[O Z (places:Int),O Z 0,O Z 0] 190)).alloc (Zv (walCells b slot epoch w.heap.size 1 true none 0) 148)):=⟨_,rfl⟩;have HW4:Hid (WalPost w3 T b (zeroed s slot 0) (w.heap.size+1) (walCells b slot epoch w.heap.size 1 true none 0) ((w.alloc (Zv #[O Z (places:Int),O Z 0,O Z 0] 190)).alloc (Zv (walCells b slot epoch w.heap.size 1 true none 0) 148))):=by
  show WalPost w3 T b _ _ _ _
  have:=HW3.out;rw[<-hw3]at this;rw[<-hw3];exact this
 rw[<-hw3]at HR3 hlt3 hb3;have HB3:=hid hb3;clear hb3 HW3 hw3;go_enter Tryz.func44,Tryz.ntmps44
 go_wp2_with (first
  |(go_at_call 79;(with_reducible refine(Zs5 places _ h5 h6).mono ?_);rintro e w1 ⟨rfl,hw1⟩;subst hw1)
  |(go_at_call 80;(with_reducible refine HRN.out.mono ?_);rintro e w2 ⟨rfl,hw2⟩;subst hw2))
 go_loopw [38] (fun q wr=>∃p:Nat,p≤places/\q=O Z p/\WalPost w3 T b (zeroed s slot p) (w1.heap.size+1) (walCells b slot epoch w1.heap.size 1 true none 0) wr) (fun q _=>places-(intOf q).toNat);case atStart=>exact⟨0,by omega,rfl,HW4.out⟩
 case round=>
  obtain⟨p,hp,rfl,hw⟩:=hrel;by_cases hpn:p<places
  ·have HW:=hid hw
   have HWR:Hid (∀W1,Below wr.heap.size wr W1->At W1 wr.heap.size (ucells zsec).toArray 5->Calls Tryz.prog 81 #[.pointer (some ⟨w1.heap.size+1,0,none⟩),O Z ((2:Int)+p),.slice (some ⟨wr.heap.size,0,none⟩) 128 128] W1 fun e w'=>e=.returned (.int .u16 0)/\WalPost w3 T b (zeroed s slot (p+1)) (w1.heap.size+1) (walCells b slot epoch w1.heap.size 1 true none 0) w'):=fun W1 hb ha=>
    Zu3 (HZ.out p hp) HSL.out HG.out (by have:=HSZ.out;omega) HC1.out HM.out (by omega) hlt3 HT1.out hw hb (Za _) ha
   have K1:Hid (p+1≤places):=hpn;clear hw HW4
   go_wp2_with (first
    |(refine Zaq rfl _ _ 36 5 1 1 rfl Zat (.int .u8 0) (by kernel_rfl) _ _ _ _ 128 rfl rfl rfl rfl (by omega) (by unfold maxLen;omega) ?_;intro w7 a7 b7;rw[Zq9]at a7;have A7:=hid a7;have B7:=hid b7;clear a7 b7)
    |(go_at_call 81;(with_reducible refine(HWR.out _ B7.out A7.out).mono ?_);rintro e w8 ⟨rfl,hp8⟩;have HP8:=hid hp8;clear hp8))
   exact⟨⟨p+1,K1.out,by go_num,HP8.out⟩,by simp[intOf];omega⟩
  ·obtain rfl:p=places:=by omega
   have HW:=hid hw;have hz:=HZ.out p (Za _);have hrs:(recSec 3 epoch 1 (leN 0 4)).length=128:=Za5 _ _ _ _ (by simp[Zal]);obtain⟨f1,f2⟩:=Zdd hz.fit slot 1 (recSec 3 epoch 1 (leN 0 4)) (by rw[hz.n'];exact HSL.out) HG.out (by have:=HSZ.out;omega) hrs;have HCK:Hid (Calls Tryz.prog 82 #[.pointer (some ⟨w1.heap.size+1,0,none⟩),.agg #[.int .u64 epoch,.int .u64 1,O Z 0]] wr fun e w'=>e=.returned (.int .u16 0)/\WalPost w3 T b (formed s slot p epoch) (w1.heap.size+1) (walCells b slot epoch w1.heap.size 1 true none 0) w'):=by
    obtain⟨T1,k1,k2,k3,k4⟩:=hw;have hwf:=Zb4 hz.fit slot 1 (recSec 3 epoch 1 (leN 0 4)) (by rw[hz.n'];exact HSL.out) HG.out (by have:=HSZ.out;omega) hrs;have hff:=Zco f1 slot (by rw[f2.n,hz.n'];exact HSL.out) HG.out;have ht:tried 0 (zeroed s slot p) ((zeroed s slot p).write slot 1 (recSec 3 epoch 1 (leN 0 4)))=(0,(zeroed s slot p).put slot 1 (recSec 3 epoch 1 (leN 0 4))):=by
     show tried 0 _ ((zeroed s slot p).write (slot:Int) ((1:Nat):Int) _)=_
     rw[hwf];rfl
    have hpt:pointed 0 slot (zeroed s slot p) (recSec 3 epoch 1 (leN 0 4))=(0,formed s slot p epoch):=by
     unfold pointed;rw[ht,Zf rfl];exact hff
    have hc:=Zer k1 slot epoch w1.heap.size 1 0 (w1.heap.size+1) true none k4 (by rw[k2 _ hlt3];exact HT1.out) epoch 1 0 he (by omega) (by omega) (by omega) (by rw[hz.c1];have:=HC1.out;omega) (fun i hi x hx=>Zc (hz.small _ HM.out i hi x hx) (by omega)) (by rw[ht,f2.c2,hz.c2];have:=HC2.out;omega) (by rw[ht];exact fun i hi x hx=>Zc (f2.small _ (hz.small _ HM.out) i hi x hx) (by omega));rw[hpt]at hc;refine hc.mono ?_;rintro e w' ⟨rfl,hp'⟩;exact⟨rfl,hp'.trans k2 k3⟩
   clear hw HW4 hz f1 f2
   go_wp2_with (first
    |(go_at_call 82;(with_reducible refine HCK.out.mono ?_);rintro e w8 ⟨rfl,hp8⟩;have HP8:=hid hp8;clear hp8))
   go_ret2;obtain⟨T1,k1,k2,k3,k4⟩:=HP8.out;have hsz3:=HB3.out.size;refine⟨w1.heap.size+1,w1.heap.size,T1,rfl,by omega,Za _,by rw[k2 _ hlt3];exact HT1.out,by rw[k2 _ (by omega)];exact HT0.out,k1,fun q hq=>k2 q (by omega),?_,k4,HR3.out.mod k3 (fun e=>e.elim (fun e=>e HT0.out) (fun e=>by omega))⟩;exact Zaj (Zm HB3.out _) k3 (fun q hq hs=>hs.elim id (fun e=>by omega))
end Go.Proofs.YtmemlkmnhcealaaGreat
