
/- Several texts in one: GeoA, Mrg8. -/
import Derived.Deep.RegionWith
import Derived.Laws.ResultCell
import Derived.Test.YtmemlkmnhcealaaGreatMrg7
set_option linter.unusedVariables false
set_option maxRecDepth 100000
set_option maxHeartbeats 4000000
namespace Go.Proofs.YtmemlkmnhcealaaGreat
open Value renaming int→O
open IntKind renaming i64→Z
open Ending renaming returned→Zu
open Go.Proofs.Tryz renaming prog→Zw
open Go.RowKit
open Lib(hid)
variable {ls:List (List UInt8)} {l:List Nat} {xs:List Value} {B M c g n:Nat} {d:Nat->Bool} {a:Option Addr} {t:TypeId} {v:Value} {w w':World}
def geo(m c s:Int):Value:=.agg #[O Z m,O Z c,O Z s]
def shp(m c s d:Int):Value:=.agg #[O Z m,O Z c,O Z s,O Z d]
def geoIs(m c s:Int):Bool:=decide (3≤m/\m≤16)&&(decide (1≤c/\c≤16)&&decide (1≤s/\s≤256))
def geoCode(m c s:Int):Int:=if geoIs m c s then 0 else 60
theorem Zam(m c s:Int):geoIs m c s=true↔3≤m/\m≤16/\1≤c/\c≤16/\1≤s/\s≤256:=by
 unfold geoIs;simp only [Bool.and_eq_true,decide_eq_true_eq];omega
theorem Zwo(n lo hi:Int)(w:World):Calls Zw 69 #[O Z n,O Z lo,O Z hi] w fun e w'=>e=Zu (.bool (decide (lo≤n/\n≤hi)))/\w'=w:=by
 by_cases h1:lo≤n
 ·by_cases h2:n≤hi
  ·rw[decide_eq_true (show lo≤n/\n≤hi from ⟨h1,h2⟩)]
   go_enter Tryz.func69,Tryz.ntmps69;go_wp2;go_ret;exact⟨rfl,rfl⟩
  ·rw[decide_eq_false (show ¬(lo≤n/\n≤hi)from fun h=>h2 h.2)]
   have h2':hi<n:=by omega
   clear h2;go_enter Tryz.func69,Tryz.ntmps69;go_wp2;go_ret;exact⟨by show Ending.returned (.bool (decide (n≤hi)))=_;rw[decide_eq_false (by omega)],rfl⟩
 ·rw[decide_eq_false (show ¬(lo≤n/\n≤hi)from fun h=>h1 h.1)]
  have h1':n<lo:=by omega
  clear h1;go_enter Tryz.func69,Tryz.ntmps69;go_wp2;go_ret;exact⟨rfl,rfl⟩
theorem Zb1(m c s:Int)(w:World):Calls Zw 38 #[geo m c s] w fun e w'=>e=Zu (.int .u16 (geoCode m c s))/\Below w.heap.size w w':=by
 have k1:=hid (fun W=>Zwo m 3 16 W);have k2:=hid (fun W=>Zwo c 1 16 W);have k3:=hid (fun W=>Zwo s 1 256 W);unfold geoCode geoIs geo;generalize decide (3≤m/\m≤16)=q1 at*;generalize decide (1≤c/\c≤16)=q2 at*;generalize decide (1≤s/\s≤256)=q3 at*;have hb:Below w.heap.size w (w.alloc (.cells #[O Z m,O Z c,O Z s] 26)):=(Zb _ _).alloc (Za _) _;cases q1<;>cases q2<;>cases q3
 all_goals
  simp only [Bool.and_true,Bool.and_false,if_true,if_false,Bool.false_eq_true]
  go_enter Tryz.func38,Tryz.ntmps38
  go_wp2_with (first
   |(go_at_call 69;(with_reducible refine(k1.out _).mono ?_);rintro e w1 ⟨rfl,rfl⟩)
   |(go_at_call 69;(with_reducible refine(k2.out _).mono ?_);rintro e w1 ⟨rfl,rfl⟩)
   |(go_at_call 69;(with_reducible refine(k3.out _).mono ?_);rintro e w1 ⟨rfl,rfl⟩))
  go_ret
  exact⟨rfl,hb⟩
end Go.Proofs.YtmemlkmnhcealaaGreat
namespace Go.Proofs.YtmemlkmnhcealaaGreat
open Value renaming int→O
open IntKind renaming i64→Z
open Ending renaming returned→Zu
open Go.Proofs.Tryz renaming prog→Zw
open Go.RowKit
open Lib(hid)
variable {ls:List (List UInt8)} {l:List Nat} {xs:List Value} {B M c g n:Nat} {d:Nat->Bool} {a:Option Addr} {t:TypeId} {v:Value} {w w':World}
theorem Zg6(m c s:Int)(w:World):Calls Zw 70 #[geo m c s] w fun e w'=>∃d,e=Zu (.tuple #[shp m c s d,.int .u16 (geoCode m c s)])/\(geoIs m c s=true->d=m-1)/\Below w.heap.size w w':=by
 have hk:=hid (fun W=>Zb1 m c s W);have hd:Hid (geoIs m c s=true->IntKind.i64.wrap (m-1)=m-1):=fun h=>by
  have:=(Zam m c s).1 h;unfold IntKind.wrap;simp[IntKind.signed,IntKind.bits];omega
 generalize geoCode m c s=q at*;unfold geo shp at*;go_enter Tryz.func70,Tryz.ntmps70;go_wp2;obtain⟨W0,hW0⟩:∃W0,W0=(w.alloc (.cells #[O Z m,O Z c,O Z s] 26)).alloc (.cells #[O Z 0,O Z 0,O Z 0,O Z 0] 135):=⟨_,rfl⟩;have hb0:Below w.heap.size w W0:=by rw[hW0];exact((Zb _ _).alloc (Za _) _).alloc (by rw[Zaa];omega) _
 have ha0:At W0 w.heap.size #[O Z m,O Z c,O Z s] 26:=by rw[hW0];exact(At.new _ _ _).alloc _
 have hr0:At W0 (w.heap.size+1) #[O Z 0,O Z 0,O Z 0,O Z 0] 135:=by rw[hW0];exact At.new2 _ _ _ _
 subst hW0;have HH:Hid (∀X,At X w.heap.size #[O Z m,O Z c,O Z s] 26->X.cell? ⟨w.heap.size,0,none⟩=some (O Z m)/\X.cell? ⟨w.heap.size,1,none⟩=some (O Z c)/\X.cell? ⟨w.heap.size,2,none⟩=some (O Z s)):=fun X h=>⟨h.cell 0,h.cell 1,h.cell 2⟩
 have HA:=hid ha0;have HR:=hid hr0;clear ha0 hr0;go_region_held3 (fun w'=>w'.cell? ⟨w.heap.size,0,none⟩=some (O Z m)/\w'.cell? ⟨w.heap.size,1,none⟩=some (O Z c)/\w'.cell? ⟨w.heap.size,2,none⟩=some (O Z s))
  (first|exact HH.out _ HA.out|exact HH.out _ HA.out.drew|exact HH.out _ HB.out|exact HH.out _ HC.out)
  (first|(go_at_call 38;(with_reducible refine(hk.out _).mono ?_);rintro e w1 ⟨rfl,hb1⟩;have HB:=hid (HA.out.drew.below hb1 HA.out.lt);have hR1:=HR.out.drew.below hb1 HR.out.lt;have d0:w1.cell? ⟨w.heap.size+1,0,none⟩=some (O Z 0):=hR1.cell 0;have d1:w1.cell? ⟨w.heap.size+1,1,none⟩=some (O Z 0):=hR1.cell 1;have d2:w1.cell? ⟨w.heap.size+1,2,none⟩=some (O Z 0):=hR1.cell 2;have d3:w1.cell? ⟨w.heap.size+1,3,none⟩=some (O Z 0):=hR1.cell 3;have f0:=hR1.free 0;have f1:=hR1.free 1;have f2:=hR1.free 2;have f3:=hR1.free 3;have HR1:=hid hR1;clear hR1;have HC:Hid (At ((((w1.setCell ⟨w.heap.size+1,0,none⟩ (O Z m)).setCell ⟨w.heap.size+1,1,none⟩ (O Z c)).setCell ⟨w.heap.size+1,2,none⟩ (O Z s)).setCell ⟨w.heap.size+1,3,none⟩ (O Z (IntKind.i64.wrap (m-1)))) w.heap.size #[O Z m,O Z c,O Z s] 26):=(((HB.out.setOther (by show w.heap.size≠w.heap.size+1;omega) _).setOther (by show w.heap.size≠w.heap.size+1;omega) _).setOther (by show w.heap.size≠w.heap.size+1;omega) _).setOther (by show w.heap.size≠w.heap.size+1;omega) _))
 clear d0 d1 d2 d3 f0 f1 f2 f3;have HF:=(((HR1.out.set 0 (O Z m)).set 1 (O Z c)).set 2 (O Z s)).set 3 (O Z (IntKind.i64.wrap (m-1)));have r0:=HF.cell 0;have r1:=HF.cell 1;have r2:=HF.cell 2;have r3:=HF.cell 3;have hbb:Below w.heap.size w ((((w1.setCell ⟨w.heap.size+1,0,none⟩ (O Z m)).setCell ⟨w.heap.size+1,1,none⟩ (O Z c)).setCell ⟨w.heap.size+1,2,none⟩ (O Z s)).setCell ⟨w.heap.size+1,3,none⟩ (O Z (IntKind.i64.wrap (m-1)))):=(((((Zac hb0.drew hb1).setCell (p:=⟨w.heap.size+1,0,none⟩) (Nat.le_succ _) _).setCell (p:=⟨w.heap.size+1,1,none⟩) (Nat.le_succ _) _).setCell (p:=⟨w.heap.size+1,2,none⟩) (Nat.le_succ _) _).setCell (p:=⟨w.heap.size+1,3,none⟩) (Nat.le_succ _) _);go_wp2;(try simp only [Exit.inBlock,Exit.then]);refine bodyPost_ret (v:=.tuple #[shp m c s (IntKind.i64.wrap (m-1)),.int .u16 q]) ?_ rfl ⟨_,rfl,hd.out,hbb⟩;rw[results_cell_tmp rfl];go_simp;rfl
theorem Zdj(m c s d:Int)(w:World)(h:geoIs m c s=true):Calls Zw 71 #[shp m c s d] w fun e w'=>e=Zu (O Z (s*c))/\Below w.heap.size w w':=by
 obtain⟨h1,h2,h3,h4,h5,h6⟩:=(Zam m c s).1 h;have hlo:0≤s*c:=Int.mul_nonneg (by omega) (by omega);have hhi:s*c≤256*16:=Int.mul_le_mul h6 h4 (by omega) (by omega);unfold shp;go_enter Tryz.func71,Tryz.ntmps71;go_wp2;go_ret;exact⟨by go_num,(Zb _ _).alloc (Za _) _⟩
open Go.RowKit
def geoRows(m c s:Int):Int:=if geoIs m c s then s*c else 0
theorem Za0{m c s:Int}(h:geoIs m c s=true):0≤s*c/\s*c≤4096:=by
 obtain⟨h1,h2,h3,h4,h5,h6⟩:=(Zam m c s).1 h;have hlo:0≤s*c:=Int.mul_nonneg (by omega) (by omega);have hhi:s*c≤256*16:=Int.mul_le_mul h6 h4 (by omega) (by omega);exact⟨hlo,by omega⟩
theorem Zfc(m c s:Int)(w:World):Calls Zw 40 #[geo m c s] w fun e w'=>e=Zu (O Z (geoRows m c s))/\Below w.heap.size w w':=by
 have hk:=hid (fun W=>Zg6 m c s W);have hr:=hid (fun d W=>Zdj m c s d W);unfold geoRows geoCode at*;cases h:geoIs m c s
 ·rw[h]at hk
  simp only [if_false,Bool.false_eq_true]at*;unfold geo shp at*;go_enter Tryz.func40,Tryz.ntmps40;go_wp2_with (go_at_call 70;(with_reducible refine(hk.out _).mono ?_);rintro e w1 ⟨d,rfl,hd,hb1⟩);go_ret;exact⟨rfl,(Zac ((Zb _ _).alloc (Za _) _) hb1).alloc (by have:=hb1.size;rw[Zaa]at this;omega) _⟩
 ·have hr:=hid (fun d W=>hr.out d W h)
  rw[h]at hk;simp only [if_true]at*;unfold geo shp at*;generalize s*c=q at*;go_enter Tryz.func40,Tryz.ntmps40
  go_wp2_with (first
   |(go_at_call 70;(with_reducible refine(hk.out _).mono ?_);rintro e w1 ⟨d,rfl,hd,hb1⟩)
   |(go_at_call 71;(with_reducible refine(hr.out _ _).mono ?_);rintro e w2 ⟨rfl,hb2⟩))
  go_ret;exact⟨rfl,Zac ((Zac ((Zb _ _).alloc (Za _) _) hb1).alloc (by have:=hb1.size;rw[Zaa]at this;omega) _) hb2⟩
theorem Zd8(M C S t:Nat)(d:Int)(w:World)(h:geoIs M C S=true)(ht:t≤4096):Calls Zw 111 #[shp M C S d,O Z t] w fun e w'=>e=Zu (O Z ((M-1-t%M:Nat):Int))/\Below w.heap.size w w':=by
 obtain⟨h1,h2,-⟩:=(Zam M C S).1 h;have hlt:t%M<M:=Nat.mod_lt _ (by omega);have e1:((M-1-t%M:Nat):Int)=(M:Int)-1-((t%M:Nat):Int):=by omega
 have e2:Int.tmod (t:Int) (M:Int)=((t%M:Nat):Int):=rfl;unfold shp;go_enter Tryz.func111,Tryz.ntmps111;go_wp2;go_quiet (fail);go_wp2;go_ret;exact⟨by rw[e1,Int.natCast_emod];rfl,below_drewN ((Zb _ _).alloc (Za _) _) _⟩
def parOf(M C r:Nat):Nat:=M-1-r/C%M
theorem Znl(M C S r:Nat)(w:World)(h:geoIs M C S=true)(hr:r<S*C):Calls Zw 258 #[geo M C S,O Z r] w fun e w'=>e=Zu (.tuple #[O Z (parOf M C r:Int),.int .u16 0])/\Below w.heap.size w w':=by
 obtain⟨h1,h2,h3,h4,h5,h6⟩:=(Zam M C S).1 h;have hk:=hid (fun W=>Zg6 M C S W);have hro:=hid (fun d W=>Zdj M C S d W h);obtain⟨hlo,hhi⟩:=Za0 h;have hr':(r:Int)<(S:Int)*(C:Int):=by exact_mod_cast hr
 have hdiv:r/C≤r:=Nat.div_le_self _ _;have hr2:r/C≤4096:=by omega
 have hp:=hid (fun d W=>Zd8 M C S (r/C) d W h hr2);have hd':((r/C:Nat):Int)=(r:Int)/(C:Int):=Int.natCast_ediv r C;unfold geoCode at hk;rw[h]at hk;simp only [if_true]at hk;unfold parOf;rw[hd']at hp;have hq1:0≤(r:Int)/(C:Int):=by rw[<-hd'];exact Int.natCast_nonneg _
 have hq2:(r:Int)/(C:Int)≤4096:=by rw[<-hd'];omega
 have hw:RowKit.wrap64 ((r:Int)/(C:Int))=(r:Int)/(C:Int):=IntWalk.wrap64_in _ ⟨by omega,by omega⟩;have hw':IntKind.i64.wrap ((r:Int)/(C:Int))=(r:Int)/(C:Int):=(IntWalk.i64_left _).trans hw;have hC0:¬C=0:=by omega
 have hC1:¬(C:Int)=0:=by omega
 clear hd';unfold geo shp at*;generalize M-1-r/C%M=p at*;generalize (S:Int)*(C:Int)=q at*;go_enter Tryz.func258,Tryz.ntmps258
 go_wp2_with (first
  |(go_at_call 70;(with_reducible refine(hk.out _).mono ?_);rintro e w1 ⟨d,rfl,hd,hb1⟩)
  |(go_at_call 71;(with_reducible refine(hro.out _ _).mono ?_);rintro e w2 ⟨rfl,hb2⟩))
 have hA:At w2 w1.heap.size #[O Z M,O Z C,O Z S,O Z ((M:Int)-1)] 135:=(At.new w1 _ _).below hb2 (by rw[Zaa];omega);have hsz:=hb1.size;have hbb:Below w.heap.size w w2:=Zac ((Zac ((Zb w.heap.size w).alloc (Za _) _) hb1).alloc (by rw[Zaa]at hsz;omega) _) hb2;have HH:Hid (∀X,At X w1.heap.size #[O Z M,O Z C,O Z S,O Z ((M:Int)-1)] 135->X.cell? ⟨w1.heap.size,0,none⟩=some (O Z M)/\X.cell? ⟨w1.heap.size,1,none⟩=some (O Z C)/\X.cell? ⟨w1.heap.size,2,none⟩=some (O Z S)/\X.cell? ⟨w1.heap.size,3,none⟩=some (O Z ((M:Int)-1))):=fun X h=>⟨h.cell 0,h.cell 1,h.cell 2,h.cell 3⟩
 have HA:=hid hA;clear hb1 hb2 hA;go_region_held3 (fun w'=>w'.cell? ⟨w1.heap.size,0,none⟩=some (O Z M)/\w'.cell? ⟨w1.heap.size,1,none⟩=some (O Z C)/\w'.cell? ⟨w1.heap.size,2,none⟩=some (O Z S)/\w'.cell? ⟨w1.heap.size,3,none⟩=some (O Z ((M:Int)-1)))
  (first|exact HH.out _ HA.out|exact HH.out _ HA.out.drew|exact HH.out _ HB.out)
  (first|(go_at_call 111;(with_reducible refine(hp.out _ _).mono ?_);rintro e w3 ⟨rfl,hb3⟩;have HB:=hid (HA.out.drew.below hb3 HA.out.lt)))
 go_wp2;go_ret2;exact⟨rfl,Zac hbb.drew hb3⟩
open Go.RowKit
open Go.RowKit
def ISeg(w:World)(v:Value)(l:List Nat):Prop:=
 ∃a c,v=.slice a l.length c/\(l= []\/∃b o,a=some ⟨b,o,none⟩/\b<w.heap.size/\∀j (h:j<l.length),w.cell? ⟨b,o+j,none⟩=some (O Z ((l[j]:Nat):Int)))
theorem ISeg.below(h:ISeg w v l)(hb:Below w.heap.size w w'):ISeg w' v l:=by
 obtain⟨a,c,h1,h2⟩:=h;refine⟨a,c,h1,?_⟩;rcases h2 with h2|⟨b,o,h3,h4,h5⟩
 ·exact .inl h2
 ·exact .inr ⟨b,o,h3,Zd h4 hb.size,fun j hj=>(hb.cell (p:=⟨b,o+j,none⟩) h4).trans (h5 j hj)⟩
theorem ISeg.shape(h:ISeg w v l):∃a c,v=.slice a l.length c:=by
 obtain⟨a,c,h1,_⟩:=h;exact⟨a,c,h1⟩
theorem ISeg.full(h:ISeg w (.slice a n c) l)(hl:0<l.length):∃b o,a=some ⟨b,o,none⟩/\b<w.heap.size/\∀j (h:j<l.length),w.cell? ⟨b,o+j,none⟩=some (O Z ((l[j]:Nat):Int)):=by
 obtain⟨a',c',h1,h2⟩:=h;simp only [Zn]at h1;obtain⟨rfl,-,rfl⟩:=h1;rcases h2 with h2|h2
 ·subst h2;simp at hl
 ·exact h2
open Go.RowKit
structure Pat where
 m:Int
 r:Int
 d:List UInt8
def patVal(m r:Int)(u:Value):Value:=.agg #[O Z m,O Z r,u]
structure PatAt (w:World) (b o:Nat) (p:Pat):Prop where
 m:w.cell? ⟨b,o,none⟩=some (O Z p.m)
 r:w.cell? ⟨b,o+1,none⟩=some (O Z p.r)
 d:∃u,w.cell? ⟨b,o+2,none⟩=some u/\Seg w u p.d
def PSeg(w:World)(v:Value)(ps:List Pat):Prop:=
 ∃a c,v=.slice a ps.length c/\ps.length≤140737488355328/\(∀p∈ps,p.d.length≤140737488355000)/\(ps= []\/∃b o,a=some ⟨b,o,none⟩/\b<w.heap.size/\∀j (h:j<ps.length),PatAt w b (o+j*3) ps[j])
theorem PatAt.below{b o:Nat}{p:Pat}(h:PatAt w b o p)(hlt:b<w.heap.size)(hb:Below w.heap.size w w'):PatAt w' b o p:=by
 obtain⟨h1,h2,u,h3,h4⟩:=h;exact⟨(hb.cell (p:=⟨b,o,none⟩) hlt).trans h1,(hb.cell (p:=⟨b,o+1,none⟩) hlt).trans h2,u,(hb.cell (p:=⟨b,o+2,none⟩) hlt).trans h3,h4.below hb⟩
theorem PSeg.below{ps:List Pat}(h:PSeg w v ps)(hb:Below w.heap.size w w'):PSeg w' v ps:=by
 obtain⟨a,c,h1,h2,h2',h3⟩:=h;refine⟨a,c,h1,h2,h2',?_⟩;rcases h3 with h3|⟨b,o,h4,h5,h6⟩
 ·exact .inl h3
 ·exact .inr ⟨b,o,h4,Zd h5 hb.size,fun j hj=>(h6 j hj).below h5 hb⟩
theorem PSeg.shape{ps:List Pat}(h:PSeg w v ps):∃a c,v=.slice a ps.length c:=by
 obtain⟨a,c,h1,_⟩:=h;exact⟨a,c,h1⟩
theorem PSeg.few{ps:List Pat}(h:PSeg w v ps):ps.length≤140737488355328:=by
 obtain⟨a,c,h1,h2,_⟩:=h;exact h2
theorem PSeg.full{ps:List Pat}(h:PSeg w (.slice a n c) ps)(hl:0<ps.length):∃b o,a=some ⟨b,o,none⟩/\b<w.heap.size/\∀j (h:j<ps.length),PatAt w b (o+j*3) ps[j]:=by
 obtain⟨a',c',h1,h2,h2',h3⟩:=h;simp only [Zn]at h1;obtain⟨rfl,-,rfl⟩:=h1;rcases h3 with h3|h3
 ·subst h3;simp at hl
 ·exact h3
def BSeg(w:World)(v:Value)(d:Nat->Bool)(M:Nat):Prop:=
 ∃a c,v=.slice a M c/\(M=0\/∃b o,a=some ⟨b,o,none⟩/\b<w.heap.size/\∀j,j<M->w.cell? ⟨b,o+j,none⟩=some (.bool (d j)))
theorem BSeg.below(h:BSeg w v d M)(hb:Below w.heap.size w w'):BSeg w' v d M:=by
 obtain⟨a,c,h1,h2⟩:=h;refine⟨a,c,h1,?_⟩;rcases h2 with h2|⟨b,o,h3,h4,h5⟩
 ·exact .inl h2
 ·exact .inr ⟨b,o,h3,Zd h4 hb.size,fun j hj=>(hb.cell (p:=⟨b,o+j,none⟩) h4).trans (h5 j hj)⟩
theorem BSeg.shape(h:BSeg w v d M):∃a c,v=.slice a M c:=by
 obtain⟨a,c,h1,_⟩:=h;exact⟨a,c,h1⟩
theorem BSeg.full(h:BSeg w v d M)(hM:0<M):∃b o c,v=.slice (some ⟨b,o,none⟩) M c/\b<w.heap.size/\∀j,j<M->w.cell? ⟨b,o+j,none⟩=some (.bool (d j)):=by
 obtain⟨a,c,h1,h2⟩:=h;rcases h2 with h2|⟨b,o,rfl,h4,h5⟩
 ·omega
 ·exact⟨b,o,c,h1,h4,h5⟩
def GoneIs(d:Nat->Bool)(M:Nat)(z:Int):Prop:=(∃k:Nat,z=k/\k<M/\d k=true/\∀i,i<k->d i=false)\/(z= -1/\∀i,i<M->d i=false)
theorem Zm4(v:Value)(d:Nat->Bool)(M:Nat)(w:World)(h:BSeg w v d M)(hM:M≤1000000):
  Calls Zw 265 #[v,.bool true] w fun e w'=>w'=w/\∃z:Int,e=Zu (O Z z)/\GoneIs d M z:=by
 obtain⟨a,c,rfl⟩:=h.shape;have H:=hid h;clear h;go_enter Tryz.func265,Tryz.ntmps265;go_wp2;go_loopw [8] (fun q wr=>∃k:Nat,k≤M/\q=O Z k/\(∀i,i<k->d i=false)/\wr=w) (fun q _=>M-(intOf q).toNat);case atStart=>exact⟨0,by omega,rfl,fun i hi=>by omega,rfl⟩
 case round=>
  obtain⟨k,hk,rfl,hz,rfl⟩:=hrel;have HZ:=hid hz;clear hz;by_cases hkn:k<M
  ·obtain⟨b,o,c',hve,hlt,hx⟩:=H.out.full (by omega)
   simp only [Zn]at hve;obtain⟨rfl,-,rfl⟩:=hve;have d0:=hx k hkn;have K1:Hid (k+1≤M):=hkn;clear hx;cases hq:d k
   ·rw[hq]at d0
    have HY:Hid (∀i,i<k+1->d i=false):=fun i hi=>by
     by_cases hik:i=k
     ·subst hik;exact hq
     ·exact HZ.out i (by omega)
    clear hq;go_wp2;exact⟨⟨k+1,K1.out,by go_num,HY.out,trivial⟩,by simp[intOf];omega⟩
   ·rw[hq]at d0
    have HQ:=hid hq;clear hq;go_wp2;go_ret;exact⟨rfl,_,rfl,.inl ⟨k,rfl,hkn,HQ.out,HZ.out⟩⟩
  ·obtain rfl:k=M:=by omega
   go_wp2;go_ret;exact⟨rfl,_,rfl,.inr ⟨rfl,HZ.out⟩⟩
theorem Zu2(x y:Int)(a:Option Addr)(n c:Nat)(w:World)(hn:n≤140737488355000):Calls Zw 259 #[.agg #[O Z x,O Z y,.slice a n c]] w fun e w'=>e=Zu (.bool (decide (n≠128)))/\Below w.heap.size w w':=by
 have hx:((n:Int) !=128)=decide (n≠128):=by
  by_cases h:n=128
  ·subst h;rfl
  ·rw[decide_eq_true h,bne_iff_ne];omega
 generalize (decide (n≠128))=q at*;go_enter Tryz.func259,Tryz.ntmps259;go_wp2;go_ret;exact⟨rfl,(Zb _ _).alloc (Za _) _⟩
theorem Ztw(x y m:Int)(u:Value)(g:Nat)(w:World)(hg:At w g #[O Z m] 3):Calls Zw 284 #[.agg #[O Z x,O Z y,u],.pointer (some ⟨g,0,none⟩)] w fun e w'=>e=Zu (.bool (x==m))/\Below w.heap.size w w':=by
 have c0:w.cell? ⟨g,0,none⟩=some (O Z m):=hg.cell 0;have hlt:=hg.lt;clear hg;go_enter Tryz.func284,Tryz.ntmps284;go_wp2;go_ret;exact⟨rfl,(Zb _ _).alloc (Za _) _⟩
def Found(q:Pat->Bool)(ps:List Pat)(z:Int):Prop:=(0≤z/\ps.any q=true)\/(z= -1/\ps.any q=false)
theorem Ze2{ps:List Pat}{q:Pat->Bool}{k:Nat}(hk:k<ps.length)(h:(ps.take k).any q=false)(hq:q ps[k]=false):(ps.take (k+1)).any q=false:=by
 rw[<-List.take_append_getElem (h:=hk),List.any_append,h,List.any_cons,hq];rfl
theorem Zmr(v:Value)(ps:List Pat)(w:World)(h:PSeg w v ps):
  Calls Zw 154 #[v,.func (.func 259) #[] #[]] w fun e w'=>Below w.heap.size w w'/\∃z:Int,e=Zu (O Z z)/\Found (fun p=>decide (p.d.length≠128)) ps z:=by
 obtain⟨a,c,rfl⟩:=h.shape;have hn:=h.few;have hdl:∀p∈ps,p.d.length≤140737488355000:=by obtain⟨_,_,_,_,h,_⟩:=h;exact h
 have HD:=hid hdl;have H:=hid h;clear h hdl;go_enter Tryz.func154,Tryz.ntmps154;go_wp2;go_loopw [8] (fun q wr=>∃k:Nat,k≤ps.length/\q=O Z k/\(ps.take k).any (fun p=>decide (p.d.length≠128))=false/\Below w.heap.size w wr) (fun q _=>ps.length-(intOf q).toNat);case atStart=>exact⟨0,by omega,rfl,by simp,Zb _ _⟩
 case round=>
  obtain⟨k,hk,rfl,hz,hbw⟩:=hrel;have HZ:=hid hz;clear hz;by_cases hkn:k<ps.length
  ·obtain⟨b,o,rfl,hlt,hx⟩:=PSeg.full (H.out.below hbw) (by omega)
   obtain⟨c0,c1,u,c2,hu⟩:=hx k hkn;obtain⟨ua,uc,rfl⟩:=hu.shape;have K1:Hid (k+1≤ps.length):=hkn;have HC:=hid (Zu2 ps[k].m ps[k].r ua ps[k].d.length uc wr (HD.out _ (Zj hkn)));clear hx hu;cases hq:decide (ps[k].d.length≠128)
   ·rw[hq]at HC
    have HY:=hid (Ze2 (q:=fun p=>decide (p.d.length≠128)) hkn HZ.out hq);clear hq;generalize ps[k].d.length=n at*;generalize ps[k].m=x at*;generalize ps[k].r=y at*;go_wp2_with (go_at_call 259;(with_reducible refine HC.out.mono ?_);rintro e w2 ⟨rfl,hb2⟩);exact⟨⟨k+1,K1.out,by go_num,HY.out,Zac hbw hb2⟩,by simp[intOf];omega⟩
   ·rw[hq]at HC
    have HY:Hid (ps.any (fun p=>decide (p.d.length≠128))=true):=List.any_eq_true.2 ⟨_,Zj hkn,hq⟩;clear hq;generalize ps[k].d.length=n at*;generalize ps[k].m=x at*;generalize ps[k].r=y at*;go_wp2_with (go_at_call 259;(with_reducible refine HC.out.mono ?_);rintro e w2 ⟨rfl,hb2⟩);go_ret;exact⟨Zac hbw hb2,_,rfl,.inl ⟨by omega,HY.out⟩⟩
  ·obtain rfl:k=ps.length:=by omega
   go_wp2;go_ret;refine⟨hbw,_,rfl,.inr ⟨rfl,?_⟩⟩;have:=HZ.out;rwa [List.take_length]at this
theorem Znr(v:Value)(ps:List Pat)(m:Int)(g:Nat)(w:World)(h:PSeg w v ps)(hg:At w g #[O Z m] 3):
  Calls Zw 154 #[v,.func (.func 284) #[] #[.pointer (some ⟨g,0,none⟩)]] w fun e w'=>Below w.heap.size w w'/\∃z:Int,e=Zu (O Z z)/\Found (fun p=>p.m==m) ps z:=by
 obtain⟨a,c,rfl⟩:=h.shape;have hn:=h.few;have HG:=hid hg;have H:=hid h;clear h hg;go_enter Tryz.func154,Tryz.ntmps154;go_wp2;go_loopw [8] (fun q wr=>∃k:Nat,k≤ps.length/\q=O Z k/\(ps.take k).any (fun p=>p.m==m)=false/\Below w.heap.size w wr) (fun q _=>ps.length-(intOf q).toNat);case atStart=>exact⟨0,by omega,rfl,by simp,Zb _ _⟩
 case round=>
  obtain⟨k,hk,rfl,hz,hbw⟩:=hrel;have HZ:=hid hz;clear hz;by_cases hkn:k<ps.length
  ·obtain⟨b,o,rfl,hlt,hx⟩:=PSeg.full (H.out.below hbw) (by omega)
   obtain⟨c0,c1,u,c2,hu⟩:=hx k hkn;obtain⟨ua,uc,rfl⟩:=hu.shape;have K1:Hid (k+1≤ps.length):=hkn;have HC:=hid (Ztw ps[k].m ps[k].r m (.slice ua ps[k].d.length uc) g wr (HG.out.below hbw HG.out.lt));clear hx hu;cases hq:(ps[k].m==m)
   ·rw[hq]at HC
    have HY:=hid (Ze2 (q:=fun p=>p.m==m) hkn HZ.out hq);clear hq;generalize ps[k].d.length=n at*;generalize ps[k].m=x at*;generalize ps[k].r=y at*;go_wp2_with (go_at_call 284;(with_reducible refine HC.out.mono ?_);rintro e w2 ⟨rfl,hb2⟩);exact⟨⟨k+1,K1.out,by go_num,HY.out,Zac hbw hb2⟩,by simp[intOf];omega⟩
   ·rw[hq]at HC
    have HY:Hid (ps.any (fun p=>p.m==m)=true):=List.any_eq_true.2 ⟨_,Zj hkn,hq⟩;clear hq;generalize ps[k].d.length=n at*;generalize ps[k].m=x at*;generalize ps[k].r=y at*;go_wp2_with (go_at_call 284;(with_reducible refine HC.out.mono ?_);rintro e w2 ⟨rfl,hb2⟩);go_ret;exact⟨Zac hbw hb2,_,rfl,.inl ⟨by omega,HY.out⟩⟩
  ·obtain rfl:k=ps.length:=by omega
   go_wp2;go_ret;refine⟨hbw,_,rfl,.inr ⟨rfl,?_⟩⟩;have:=HZ.out;rwa [List.take_length]at this
theorem Zii(v:Value)(ps:List Pat)(w:World)(h:PSeg w v ps):
  Calls Zw 260 #[v,.func (.func 259) #[] #[]] w fun e w'=>e=Zu (.bool (ps.any fun p=>decide (p.d.length≠128)))/\Below w.heap.size w w':=by
 have hi:=hid (Zmr v ps w h);obtain⟨a,c,rfl⟩:=h.shape;clear h;go_enter Tryz.func260,Tryz.ntmps260;go_wp2_with (go_at_call 154;(with_reducible refine hi.out.mono ?_);rintro e w2 ⟨hb,z,rfl,hz⟩);go_ret;refine⟨?_,hb⟩;rcases hz with ⟨h1,h2⟩|⟨h1,h2⟩
 ·rw[h2];simp[h1]
 ·rw[h2];simp[h1]
theorem Zij(v:Value)(ps:List Pat)(m:Int)(g:Nat)(w:World)(h:PSeg w v ps)(hg:At w g #[O Z m] 3):
  Calls Zw 260 #[v,.func (.func 284) #[] #[.pointer (some ⟨g,0,none⟩)]] w fun e w'=>e=Zu (.bool (ps.any fun p=>p.m==m))/\Below w.heap.size w w':=by
 have hi:=hid (Znr v ps m g w h hg);obtain⟨a,c,rfl⟩:=h.shape;clear h hg;go_enter Tryz.func260,Tryz.ntmps260;go_wp2_with (go_at_call 154;(with_reducible refine hi.out.mono ?_);rintro e w2 ⟨hb,z,rfl,hz⟩);go_ret;refine⟨?_,hb⟩;rcases hz with ⟨h1,h2⟩|⟨h1,h2⟩
 ·rw[h2];simp[h1]
 ·rw[h2];simp[h1]
open Go.RowKit CrcM
def patN(ps:List Pat)(k:Nat):Pat:=(ps[k]?).getD ⟨0,0,[]⟩
theorem Zng(ps:List Pat)(k:Nat)(h:k<ps.length):patN ps k=ps[k]:=by unfold patN;rw[Zh h];rfl
def headSec(ep seq:Nat)(ps:List Pat)(k:Nat):List UInt8:=
 recSec 1 ep seq (le4 [k,ps.length,(patN ps k).m.toNat,(patN ps k).r.toNat,(escOf (patN ps k).d).toNat,crcN (escRow (patN ps k).d)])
def secsTo(ep seq:Nat)(ps:List Pat):Nat->List (List UInt8)
 |0=> []
 |k+1=>secsTo ep seq ps k++ [headSec ep seq ps k,escRow (patN ps k).d]
def sumTo(ep seq:Nat)(ps:List Pat):Nat->BitVec 32
 |0=>0#32
 |k+1=>more (sumTo ep seq ps k) (nats (headSec ep seq ps k))
def sealSec(ep seq:Nat)(ps:List Pat):List UInt8:=recSec 2 ep seq (leN ps.length 4++leN (sumTo ep seq ps ps.length).toNat 4)
def txnSecs(ep seq:Nat)(ps:List Pat):List (List UInt8):=secsTo ep seq ps ps.length++ [sealSec ep seq ps]
theorem Zdp(ep seq:Nat)(ps:List Pat)(k:Nat):(secsTo ep seq ps k).length=2*k:=by
 induction k with
 |zero=>rfl
 |succ k ih=>rw[secsTo,Zo,ih];simp;omega
theorem Zb9(ep seq:Nat)(ps:List Pat):(txnSecs ep seq ps).length=2*ps.length+1:=by
 rw[txnSecs,Zo,Zdp];rfl
theorem Zbu(ep seq:Nat)(ps:List Pat)(k:Nat):(headSec ep seq ps k).length=128:=Za5 _ _ _ _ (by simp[Zbs])
def SecRow(w:World)(B:Nat)(v:Value)(ls:List (List UInt8)):Prop:=
 ∃us:List Value,us.length=ls.length/\w.ownsRow B 36 1 v ls.length us/\∀j (h:j<ls.length) (h':j<us.length),w.ownsRow B 5 1 us[j] 128 (ucells ls[j])
theorem SecRow.shape(h:SecRow w B v ls):∃a c,v=.slice a ls.length c:=by
 obtain⟨us,h1,h2,h3⟩:=h;exact Zab h2
theorem SecRow.below(h:SecRow w B v ls)(hb:Below w.heap.size w w'):SecRow w' B v ls:=by
 obtain⟨us,h1,h2,h3⟩:=h;exact⟨us,h1,Zaf h2 hb (Za _),fun j h h'=>Zaf (h3 j h h') hb (Za _)⟩
theorem SecRow.mod{cs:Array Value}(h:SecRow w B v ls)(hg:At w g cs t)(hc:Chg (· =g) w w')(h1:36≠t)(h2:5≠t):SecRow w' B v ls:=by
 obtain⟨us,e1,e2,e3⟩:=h;exact⟨us,e1,Zad e2 hc (fun x hx e=>Za4 e2 hg h1 (e ▸ hx)),fun j h h'=>Zad (e3 j h h') hc (fun x hx e=>Za4 (e3 j h h') hg h2 (e ▸ hx))⟩
theorem Zf3:SliceOf Zw 220 36 1 24:=SliceOf.mk' (z:=.slice none 0 0) Tryz.underlying220 (by decide) (by kernel_rfl) rfl
theorem Zwx{B':Nat}{e:TypeId}{sz sz' m:Nat}{u:Value}{ys:List Value}(h:w.ownsRow B e sz v n xs)(h':w.ownsRow B' t sz' u m ys)(hne:e≠t)(hu:u.ownBlock=some g):v.ownBlock≠some g:=by
 rcases h'.2 with ⟨rfl,_⟩|⟨g',cap,cur,rfl,_,hg,_⟩
 ·cases hu
 ·simp only [Value.ownBlock,Zg]at hu
  subst hu;exact Za4 (cs:=cur) h hg hne
theorem Zjt{v':Value}{ms:List (List UInt8)}{us:List Value}(h1:us.length=ls.length)(h2:w.ownsRow B 36 1 v ls.length us)(h3:∀j (h:j<ls.length) (h':j<us.length),w.ownsRow B 5 1 us[j] 128 (ucells ls[j]))
  (hx:xs.length=ms.length) (hm:∀j (h:j<ms.length) (h':j<xs.length),w.ownsRow B 5 1 xs[j] 128 (ucells ms[j]))
  (hn:w'.ownsRow B 36 1 v' (ls.length+ms.length) (us++xs)) (hc:Chg (fun q=>v.ownBlock=some q) w w'):SecRow w' B v' (ls++ms):=by
 refine⟨us++xs,by simp[h1,hx],by rw[Zo];exact hn,fun j h h'=> ?_⟩;have hmod:∀u l,w.ownsRow B 5 1 u 128 (ucells l)->w'.ownsRow B 5 1 u 128 (ucells l):=fun u l hu=>Zad hu hc (fun g hg e=>Zwx h2 hu (by decide) hg e)
 by_cases hj:j<ls.length
 ·rw[List.getElem_append_left hj,List.getElem_append_left (by omega)]
  exact hmod _ _ (h3 j hj (by omega))
 ·rw[List.getElem_append_right (by omega),List.getElem_append_right (by omega)]
  have e:j-us.length=j-ls.length:=by rw[h1]
  simp only [e];have hl:j<ls.length+ms.length:=by rw[<-Zo];exact h
  exact hmod _ _ (hm (j-ls.length) (by omega) (by omega))
theorem Ztn(w:World)(x y:Value)(t:TypeId):∀j u,[x,y][j]?=some u->(w.alloc (.cells #[x,y] t)).cell? ((⟨w.heap.size,0,none⟩:Addr).add j)=some u:=by
 intro j u hu;rw[Addr.add_lit,Nat.zero_add,(At.new w #[x,y] t).cell j];simpa using hu
theorem Zwz(w:World)(x:Value)(t:TypeId):∀j u,[x][j]?=some u->(w.alloc (.cells #[x] t)).cell? ((⟨w.heap.size,0,none⟩:Addr).add j)=some u:=by
 intro j u hu;rw[Addr.add_lit,Nat.zero_add,(At.new w #[x] t).cell j];simpa using hu
end Go.Proofs.YtmemlkmnhcealaaGreat
