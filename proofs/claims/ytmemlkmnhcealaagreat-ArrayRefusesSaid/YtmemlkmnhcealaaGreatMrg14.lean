
/- Several texts in one: PlnD, VMap, PlnE. -/
import Derived.Test.YtmemlkmnhcealaaGreatMrg13
set_option linter.unusedVariables false
set_option maxRecDepth 100000
set_option maxHeartbeats 4000000
namespace Go.Proofs.YtmemlkmnhcealaaGreat
open Value renaming int→O,pointer→Zs
open IntKind renaming i64→Z
open Ending renaming returned→Zu
open Go.Proofs.Tryz renaming prog→Zw
open Go.RowKit
open Lib(hid)
variable {z:Int} {ps:List Pat} {xs:List Value} {B B' C M S g k n q r sz:Nat} {d:Nat->Bool} {f:Nat->List Value} {dv:Nat->Value} {e t:TypeId} {u v vd vp:Value} {w w':World}
theorem Zfl:SliceOf Zw 41 3 1 8:=SliceOf.mk' (z:=.int .i64 0) Tryz.underlying41 (by decide) (by kernel_rfl) rfl
def mcells(l:List Nat):List Value:=l.map fun x:Nat=>O Z (x:Int)
theorem Zhf(l:List Nat)(k:Nat):mcells (l++ [k])=mcells l++ [O Z (k:Int)]:=by simp[mcells]
theorem Zl9(l:List Nat)(i:Nat)(h:i<l.length):(mcells l)[i]?=some (O Z ((l[i]:Nat):Int)):=by simp[mcells,h]
def givenIn(ps:List Pat)(m:Int):Bool:=ps.any fun p=>p.m==m
theorem Zhd(h:RowAt w q M C S vd vp d ps r)(m:Int):
  Calls Zw 263 #[Zs (some ⟨q,0,none⟩),O Z m] w fun e w'=>e=Zu (.bool (givenIn ps m))/\Below w.heap.size w w':=by
 have hb0:Below w.heap.size w (w.alloc (.cells #[O Z m] 3)):=(Zb _ _).alloc (Za _) _;have c4:(w.alloc (.cells #[O Z m] 3)).cell? ⟨q,4,none⟩=some vp:=(h.below hb0).at'.cell 4;have hc:=hid (Zij vp ps m w.heap.size _ (h.pt.below hb0) (At.new w _ _));unfold givenIn;generalize (ps.any fun p=>p.m==m)=z at*;clear h;go_enter Tryz.func263,Tryz.ntmps263;go_wp2_with (go_at_call 260;(with_reducible refine hc.out.mono ?_);rintro e w2 ⟨rfl,hb⟩);go_ret;exact⟨rfl,Zac hb0 hb⟩
def whichTo(q:Nat->Bool)(k:Nat):List Nat:=(List.range k).filter q
theorem Zb3(q:Nat->Bool)(k:Nat):whichTo q (k+1)=if q k then whichTo q k++ [k]else whichTo q k:=by
 unfold whichTo;rw[List.range_succ,List.filter_append];by_cases h:q k<;>simp[h]
theorem Za7(q:Nat->Bool)(k:Nat):(whichTo q k).length≤k:=by
 unfold whichTo;have:=List.length_filter_le q (List.range k);simpa using this
def isRest(ps:List Pat)(par:Nat)(m:Nat):Bool:= !(m==par)&& !(givenIn ps (m:Int))
def isOld(ps:List Pat)(par:Nat)(m:Nat):Bool:=(m==par)||givenIn ps (m:Int)
theorem Zwb(h:RowAt w q M C S vd vp d ps r)(hg:At w g #[Zs (some ⟨q,0,none⟩)] 279)(m:Nat):
  Calls Zw 262 #[O Z m,Zs (some ⟨g,0,none⟩)] w fun e w'=>e=Zu (.bool (isRest ps (parOf M C r) m))/\Below w.heap.size w w':=by
 have c0:w.cell? ⟨g,0,none⟩=some (Zs (some ⟨q,0,none⟩)):=hg.cell 0;have c5:w.cell? ⟨q,5,none⟩=some (O Z ((parOf M C r:Nat):Int)):=h.at'.cell 5;have hc:=hid (Zhd h (m:Int));unfold isRest;generalize givenIn ps (m:Int)=z at*;generalize parOf M C r=par at*;clear h hg;by_cases hp:m=par
 ·subst hp
  rw[show(m==m)=true by simp];go_enter Tryz.func262,Tryz.ntmps262;go_wp2;go_ret;exact⟨rfl,Zb _ _⟩
 ·rw[show(m==par)=false by simp[hp]]
  have hp1:((m:Int)==(par:Int))=false:=by simp;omega
  have hp2:((m:Int) !=(par:Int))=true:=by simp;omega
  go_enter Tryz.func262,Tryz.ntmps262;go_wp2_with (go_at_call 263;(with_reducible refine hc.out.mono ?_);rintro e w2 ⟨rfl,hb⟩);go_ret;exact⟨rfl,hb⟩
theorem Zqt(h:RowAt w q M C S vd vp d ps r)(hg:At w g #[Zs (some ⟨q,0,none⟩)] 279)(hM:M≤16):
  Calls Zw 261 #[Zs (some ⟨q,0,none⟩),.func (.func 262) #[] #[Zs (some ⟨g,0,none⟩)]] w fun e w'=>∃v,e=.returned v/\w'.ownsRow w.heap.size 3 1 v (whichTo (isRest ps (parOf M C r)) M).length (mcells (whichTo (isRest ps (parOf M C r)) M))/\Below w.heap.size w w':=by
 have c0:w.cell? ⟨q,0,none⟩=some (O Z M):=h.at'.cell 0;have HC:Hid (∀(m:Nat) W,Below w.heap.size w W->Calls Zw 262 #[O Z m,Zs (some ⟨g,0,none⟩)] W fun e w'=>e=Zu (.bool (isRest ps (parOf M C r) m))/\Below W.heap.size W w'):=fun m W hW=>Zwb (h.below hW) (hg.below hW hg.lt) m
 generalize isRest ps (parOf M C r)=f at*;clear h hg;go_enter Tryz.func261,Tryz.ntmps261;go_wp2;go_loopw [5,12] (fun v z wr=>∃k:Nat,k≤M/\z=O Z k/\wr.ownsRow w.heap.size 3 1 v (whichTo f k).length (mcells (whichTo f k))/\Below w.heap.size w wr) (fun _ z _=>M-(intOf z).toNat);case atStart=>exact⟨0,by omega,rfl,World.ownsRow_nil _ _ _ _,Zb _ _⟩
 case round=>
  obtain⟨k,hk',rfl,hown,hbw⟩:=hrel;have HO:=hid hown;clear hown;by_cases hkn:k<M
  ·have K1:Hid (k+1≤M):=hkn
   have hc:=hid (HC.out k wr hbw);have hs:=hid (Zb3 f k);have hwl:=Za7 f k;cases hf:f k
   ·rw[hf]at hc hs
    clear hf;simp only [Bool.false_eq_true,if_false]at hs;go_wp2_with (go_at_call 262;(with_reducible refine hc.out.mono ?_);rintro e w2 ⟨rfl,hb2⟩);refine⟨⟨k+1,K1.out,by go_num,?_,Zac hbw hb2⟩,by simp[intOf];omega⟩;rw[hs.out];exact Zaf HO.out hb2 (Za _)
   ·rw[hf]at hc hs
    clear hf;simp only [if_true]at hs
    go_wp2_with (first
     |(go_at_call 262;(with_reducible refine hc.out.mono ?_);rintro e w2 ⟨rfl,hb2⟩;have hown2:=Zaf HO.out hb2 (Za _);have HO2:=hid hown2;clear hown2;have hbb:=Zac hbw hb2)
     |(refine Zay rfl _ _ 41 3 8 rfl Zfl w.heap.size u5 (whichTo f k).length _ rfl HO2.out _ rfl rfl (by unfold maxLen;omega) (by omega) hbb.size ?_;intro v' w5 hown5 hb5 hgr5))
    refine⟨⟨k+1,K1.out,by go_num,?_,hbb.trans hb5⟩,by simp[intOf];omega⟩;rw[hs.out,Zhf,Zo];exact hown5
  ·obtain rfl:k=M:=by omega
   go_wp2;go_ret;exact⟨_,rfl,HO.out,hbw⟩
theorem Zt6(h:RowAt w q M C S vd vp d ps r)(hM:M≤16):
  Calls Zw 210 #[Zs (some ⟨q,0,none⟩)] w fun e w'=>∃v,e=.returned v/\w'.ownsRow w.heap.size 3 1 v (whichTo (isRest ps (parOf M C r)) M).length (mcells (whichTo (isRest ps (parOf M C r)) M))/\Below w.heap.size w w':=by
 have hb0:Below w.heap.size w (w.alloc (.cells #[Zs (some ⟨q,0,none⟩)] 279)):=(Zb _ _).alloc (Za _) _;have hc:=hid (Zqt (h.below hb0) (At.new w #[Zs (some ⟨q,0,none⟩)] 279) hM);generalize isRest ps (parOf M C r)=f at*;generalize hl:whichTo f M=l at*;clear h hl;go_enter Tryz.func210,Tryz.ntmps210;go_wp2_with (go_at_call 261;(with_reducible refine hc.out.mono ?_);rintro e w2 ⟨v,rfl,hown,hb⟩);go_ret;exact⟨v,rfl,Zan hown (by rw[Zaa];omega),Zac hb0 hb⟩
theorem Zw0(h:RowAt w q M C S vd vp d ps r)(hg:At w g #[Zs (some ⟨q,0,none⟩)] 279)(m:Nat):
  Calls Zw 264 #[O Z m,Zs (some ⟨g,0,none⟩)] w fun e w'=>e=Zu (.bool (isOld ps (parOf M C r) m))/\Below w.heap.size w w':=by
 have c0:w.cell? ⟨g,0,none⟩=some (Zs (some ⟨q,0,none⟩)):=hg.cell 0;have c5:w.cell? ⟨q,5,none⟩=some (O Z ((parOf M C r:Nat):Int)):=h.at'.cell 5;have hc:=hid (Zhd h (m:Int));unfold isOld;generalize givenIn ps (m:Int)=z at*;generalize parOf M C r=par at*;clear h hg;by_cases hp:m=par
 ·subst hp
  rw[show(m==m)=true by simp];go_enter Tryz.func264,Tryz.ntmps264;go_wp2;go_ret;exact⟨rfl,Zb _ _⟩
 ·rw[show(m==par)=false by simp[hp]]
  have hp1:((m:Int)==(par:Int))=false:=by simp;omega
  have hp2:((m:Int) !=(par:Int))=true:=by simp;omega
  go_enter Tryz.func264,Tryz.ntmps264;go_wp2_with (go_at_call 263;(with_reducible refine hc.out.mono ?_);rintro e w2 ⟨rfl,hb⟩);go_ret;exact⟨rfl,hb⟩
theorem Zr5(h:RowAt w q M C S vd vp d ps r)(hg:At w g #[Zs (some ⟨q,0,none⟩)] 279)(hM:M≤16):
  Calls Zw 261 #[Zs (some ⟨q,0,none⟩),.func (.func 264) #[] #[Zs (some ⟨g,0,none⟩)]] w fun e w'=>∃v,e=.returned v/\w'.ownsRow w.heap.size 3 1 v (whichTo (isOld ps (parOf M C r)) M).length (mcells (whichTo (isOld ps (parOf M C r)) M))/\Below w.heap.size w w':=by
 have c0:w.cell? ⟨q,0,none⟩=some (O Z M):=h.at'.cell 0;have HC:Hid (∀(m:Nat) W,Below w.heap.size w W->Calls Zw 264 #[O Z m,Zs (some ⟨g,0,none⟩)] W fun e w'=>e=Zu (.bool (isOld ps (parOf M C r) m))/\Below W.heap.size W w'):=fun m W hW=>Zw0 (h.below hW) (hg.below hW hg.lt) m
 generalize isOld ps (parOf M C r)=f at*;clear h hg;go_enter Tryz.func261,Tryz.ntmps261;go_wp2;go_loopw [5,12] (fun v z wr=>∃k:Nat,k≤M/\z=O Z k/\wr.ownsRow w.heap.size 3 1 v (whichTo f k).length (mcells (whichTo f k))/\Below w.heap.size w wr) (fun _ z _=>M-(intOf z).toNat);case atStart=>exact⟨0,by omega,rfl,World.ownsRow_nil _ _ _ _,Zb _ _⟩
 case round=>
  obtain⟨k,hk',rfl,hown,hbw⟩:=hrel;have HO:=hid hown;clear hown;by_cases hkn:k<M
  ·have K1:Hid (k+1≤M):=hkn
   have hc:=hid (HC.out k wr hbw);have hs:=hid (Zb3 f k);have hwl:=Za7 f k;cases hf:f k
   ·rw[hf]at hc hs
    clear hf;simp only [Bool.false_eq_true,if_false]at hs;go_wp2_with (go_at_call 264;(with_reducible refine hc.out.mono ?_);rintro e w2 ⟨rfl,hb2⟩);refine⟨⟨k+1,K1.out,by go_num,?_,Zac hbw hb2⟩,by simp[intOf];omega⟩;rw[hs.out];exact Zaf HO.out hb2 (Za _)
   ·rw[hf]at hc hs
    clear hf;simp only [if_true]at hs
    go_wp2_with (first
     |(go_at_call 264;(with_reducible refine hc.out.mono ?_);rintro e w2 ⟨rfl,hb2⟩;have hown2:=Zaf HO.out hb2 (Za _);have HO2:=hid hown2;clear hown2;have hbb:=Zac hbw hb2)
     |(refine Zay rfl _ _ 41 3 8 rfl Zfl w.heap.size u5 (whichTo f k).length _ rfl HO2.out _ rfl rfl (by unfold maxLen;omega) (by omega) hbb.size ?_;intro v' w5 hown5 hb5 hgr5))
    refine⟨⟨k+1,K1.out,by go_num,?_,hbb.trans hb5⟩,by simp[intOf];omega⟩;rw[hs.out,Zhf,Zo];exact hown5
  ·obtain rfl:k=M:=by omega
   go_wp2;go_ret;exact⟨_,rfl,HO.out,hbw⟩
theorem Zwq(h:RowAt w q M C S vd vp d ps r)(hM:M≤16):
  Calls Zw 211 #[Zs (some ⟨q,0,none⟩)] w fun e w'=>∃v,e=.returned v/\w'.ownsRow w.heap.size 3 1 v (whichTo (isOld ps (parOf M C r)) M).length (mcells (whichTo (isOld ps (parOf M C r)) M))/\Below w.heap.size w w':=by
 have hb0:Below w.heap.size w (w.alloc (.cells #[Zs (some ⟨q,0,none⟩)] 279)):=(Zb _ _).alloc (Za _) _;have hc:=hid (Zr5 (h.below hb0) (At.new w #[Zs (some ⟨q,0,none⟩)] 279) hM);generalize isOld ps (parOf M C r)=f at*;generalize hl:whichTo f M=l at*;clear h hl;go_enter Tryz.func211,Tryz.ntmps211;go_wp2_with (go_at_call 261;(with_reducible refine hc.out.mono ?_);rintro e w2 ⟨v,rfl,hown,hb⟩);go_ret;exact⟨v,rfl,Zan hown (by rw[Zaa];omega),Zac hb0 hb⟩
theorem Zuc(q:Nat)(w:World):Calls Zw 209 #[Zs (some ⟨q,0,none⟩)] w fun e w'=>e=Zu (.slice none 0 0)/\w'=w:=by
 go_enter Tryz.func209,Tryz.ntmps209;go_wp2;go_ret;exact⟨rfl,rfl⟩
def modeOf(M:Nat)(ps:List Pat)(par:Nat)(z:Int):Nat:=
 if M-1-ps.length=0 then 1 else if z=par then 4 else if (0≤z/\givenIn ps z=true)\/(z<0/\M-1-ps.length<ps.length+1)then 3 else 2
theorem Zoc(d:Nat->Bool):∀M,∃z,GoneIs d M z
 |0=>⟨-1,.inr ⟨rfl,fun i hi=>by omega⟩⟩
 |M+1=>by
  obtain⟨z,hz⟩:=Zoc d M;rcases hz with ⟨k,h1,h2,h3,h4⟩|⟨h1,h2⟩
  ·exact⟨z,.inl ⟨k,h1,by omega,h3,h4⟩⟩
  ·cases hd:d M
   ·exact⟨-1,.inr ⟨rfl,fun i hi=>by
     by_cases hi2:i=M
     ·subst hi2;exact hd
     ·exact h2 i (by omega)⟩⟩
   ·exact⟨M,.inl ⟨M,rfl,by omega,hd,fun i hi=>h2 i hi⟩⟩
theorem Ztu{z':Int}(h:GoneIs d M z)(h':GoneIs d M z'):z=z':=by
 rcases h with ⟨k,h1,h2,h3,h4⟩|⟨h1,h2⟩<;>rcases h' with ⟨k',h1',h2',h3',h4'⟩|⟨h1',h2'⟩
 ·rcases Nat.lt_trichotomy k k' with hk|hk|hk
  ·have:=h4' k hk;rw[h3]at this;cases this
  ·omega
  ·have:=h4 k' hk;rw[h3']at this;cases this
 ·have:=h2' k h2;rw[h3]at this;cases this
 ·have:=h2 k' h2';rw[h3']at this;cases this
 ·omega
theorem Zwv(h:GoneIs d M z): -1≤z/\z<(M:Int)\/M=0:=by
 rcases h with ⟨k,h1,h2,h3,h4⟩|⟨h1,h2⟩
 ·left;omega
 ·omega
theorem Zt7(h:RowAt w q M C S vd vp d ps r)(hM:M≤16)(hM1:3≤M)(hps:ps.length≤M-1)(z:Int)(hz:GoneIs d M z):
  Calls Zw 212 #[Zs (some ⟨q,0,none⟩)] w fun e w'=>e=Zu (.int .u8 (modeOf M ps (parOf M C r) z:Nat))/\Below w.heap.size w w':=by
 have HR:=hid h;obtain⟨c0,c3,c4,c5⟩:w.cell? ⟨q,0,none⟩=some (O Z M)/\w.cell? ⟨q,3,none⟩=some vd/\w.cell? ⟨q,4,none⟩=some vp/\w.cell? ⟨q,5,none⟩=some (O Z ((parOf M C r:Nat):Int)):=⟨h.at'.cell 0,h.at'.cell 3,h.at'.cell 4,h.at'.cell 5⟩;have hi:Hid (∀W,Below w.heap.size w W->Calls Zw 265 #[vd,.bool true] W fun e w'=>w'=W/\e=Zu (O Z z)):=fun W hW=>(Zm4 vd d M W (h.ds.below hW) (by omega)).mono fun e w' ⟨x1,z',x2,x3⟩=>⟨x1,by rw[x2,Ztu x3 hz]⟩
 have hgv:Hid (∀W,Below w.heap.size w W->Calls Zw 263 #[Zs (some ⟨q,0,none⟩),O Z z] W fun e w'=>e=Zu (.bool (givenIn ps z))/\Below W.heap.size W w'):=fun W hW=>Zhd (h.below hW) z
 obtain⟨pa,pc,rfl⟩:=h.pt.shape;have hzl:=Zwv hz;unfold modeOf;generalize parOf M C r=par at*;clear h hz;generalize givenIn ps z=gv at*;generalize hn:ps.length=n at*;have hleft:(M:Int)-1-(n:Int)=((M-1-n:Nat):Int):=by omega
 have hl2:M-1-n≤16:=by omega
 have hn2:n≤16:=by omega
 generalize M-1-n=L at*;clear hps hn;have hb:Hid (∀nq,Below w.heap.size w (w.drewN nq)):=fun nq=>below_drewN (Zb _ _) nq
 by_cases h0:L=0
 ·subst h0
  rw[Zf rfl];go_enter Tryz.func212,Tryz.ntmps212;go_wp2;go_quiet (fail);go_wp2_with (go_at_call 265;(with_reducible refine(hi.out _ (hb.out _)).mono ?_);rintro e w2 ⟨rfl,rfl⟩);go_ret;exact⟨rfl,hb.out _⟩
 ·have h01:((L:Int)==0)=false:=by simp;exact h0
  rw[Ze h0];by_cases hzp:z=(par:Int)
  ·have hzp1:(z==(par:Int))=true:=by simp[hzp]
   rw[Zf hzp];clear hzp;go_enter Tryz.func212,Tryz.ntmps212;go_wp2;go_quiet (fail);go_wp2_with (go_at_call 265;(with_reducible refine(hi.out _ (hb.out _)).mono ?_);rintro e w2 ⟨rfl,rfl⟩);go_ret;exact⟨rfl,hb.out _⟩
  ·have hzp1:(z==(par:Int))=false:=by simp[hzp]
   rw[Ze hzp];clear hzp;by_cases hz0:0≤z
   ·have hz1:decide (0≤z)=true:=decide_eq_true hz0
    have hz2:decide (z<0)=false:=decide_eq_false (by omega);cases gv
    focus
     rw[Ze (by simp;omega)]
    rotate_left
    focus
     rw[Zf (by simp;omega)]
    rotate_left
    all_goals
     go_enter Tryz.func212,Tryz.ntmps212
     go_wp2
     go_quiet (fail)
     go_wp2_with (first
      |(go_at_call 265;(with_reducible refine(hi.out _ (hb.out _)).mono ?_);rintro e w2 ⟨rfl,rfl⟩)
      |(go_at_call 263;(with_reducible refine(hgv.out _ (hb.out _)).mono ?_);rintro e w2 ⟨rfl,hb2⟩))
     go_ret
     exact⟨rfl,(hb.out _).trans hb2⟩
   ·have hz1:decide (0≤z)=false:=decide_eq_false hz0
    have hz2:decide (z<0)=true:=decide_eq_true (by omega);by_cases hL:L<n+1
    focus
     rw[Zf (by right;omega)]
     have hL':(L:Int)<(n:Int)+1:=by omega
    rotate_left
    focus
     rw[Ze (by omega)]
     have hL':¬(L:Int)<(n:Int)+1:=by omega
    rotate_left
    all_goals
     go_enter Tryz.func212,Tryz.ntmps212
     go_wp2
     go_quiet (fail)
     go_wp2_with (go_at_call 265;(with_reducible refine(hi.out _ (hb.out _)).mono ?_);rintro e w2 ⟨rfl,rfl⟩)
     go_ret
     exact⟨rfl,hb.out _⟩
end Go.Proofs.YtmemlkmnhcealaaGreat
namespace Go
open Value renaming int→O,pointer→Zs
open IntKind renaming i64→Z
open Ending renaming returned→Zu
open Go.RowKit Go.Maps Go.ChangeMaps Go.MapKept
open Lib(hid)
def rawElem(v:Value):Option (DataW Value×List MemPlace):=some (.held v,[])
def World.vmap(w:World)(P:Program)(k:TypeId)(κ:IntKind)(b n:Nat)(f:Int->Option Value):Prop:=
 ∃D:DataW Value,w.ownsMap P k rawElem b n D/\∀z,(Lit.int κ z).wf=true->Go.Maps.has D (.int κ z)=(f z).isSome/\∀v,f z=some v->D.atKey (.int κ z) (.held undef)=.held v
section
variable {P:Program} {k e:TypeId} {κ:IntKind} {w w':World} {b n:Nat} {f:Int->Option Value}
theorem World.vmap.lt(h:w.vmap P k κ b n f):b<w.heap.size:=by
 obtain⟨D,h,_⟩:=h;exact h.lt
theorem World.vmap_made(w:World)(P:Program)(k:TypeId)(κ:IntKind):(w.alloc (.map #[] 0)).vmap P k κ w.heap.size 0 (fun _=>none):=
 ⟨.map [],World.ownsMap_made w P k _,fun z _=>⟨rfl,fun v h=>by cases h⟩⟩
theorem World.vmap.mod{S:Nat->Prop}(h:w.vmap P k κ b n f)(hc:Chg S w w')(hS:¬S b):w'.vmap P k κ b n f:=by
 obtain⟨D,⟨es,clock,h1,h2⟩,h3⟩:=h;exact⟨D,⟨es,clock,(hc.block b (lt_of_block h1) hS).trans h1,h2⟩,h3⟩
theorem World.vmap.below(h:w.vmap P k κ b n f)(hb:Below w.heap.size w w'):w'.vmap P k κ b n f:=h.mod (Zm hb (fun _=>False)) (fun h=>h)
theorem World.vmap.mono(h:w.vmap P k κ b n f){m:Nat}(hm:n≤m):w.vmap P k κ b m f:=by
 obtain⟨D,h1,h3⟩:=h;exact⟨D,h1.mono hm,h3⟩
theorem atKey_zero{D:DataW Value}(hM:IsMap D){kl:Lit}(h:Go.Maps.has D kl=true)(u v:DataW Value):D.atKey kl u=D.atKey kl v:=by
 obtain⟨es,rfl⟩:=hM;rw[has_eq]at h;unfold DataW.atKey;cases hf:es.find? (fun p=>p.1.sameKey kl)with
 |some p=>simp[hf]
 |none=>
  rw[List.find?_eq_none]at hf;obtain⟨p,hp,hp2⟩:=List.any_eq_true.1 h;exact absurd hp2 (hf p hp)
section
variable {ops:Array Oper} {rest:List Oper} {o:Oper} {a:Act} {Q:Exit->Act->World->Prop}
theorem Zem(hg:o.guard=none)(m x:Operand)(t:TypeId)(hop:o.op=Op.lookup t m x false)(ht:P.underlying t=some (.map k e))(hk:P.underlying k=some (.int κ))(z0:Value)(hz:(zeroValue e).run P w=.ok z0 w)
  (hm:a.eval m=.map (some b)) (hown:w.vmap P k κ b n f) (z:Int) (hx:a.eval x=.int κ z) (hwf:(Lit.int κ z).wf=true)
  (hK:wpList P ops Q rest (a.put o.dst ((f z).getD z0)) w):
  wpList P ops Q (o::rest) a w:=by
 obtain⟨D,h1,h2⟩:=hown;refine wpList_plain hg fun K' hK'=> ?_
 have hz':(zeroValue e).run P w=.ok z0 w:=hz;obtain⟨v,ps,hrun,hv⟩:=h1.lookup (int_keyed hk) ht hz (zd:=.held z0) (zp:= []) rfl (keyOf_int_mk hk hwf);obtain⟨h3,h4⟩:=h2 z hwf;have hval:v=(f z).getD z0:=by
  simp only [rawElem,Zg,Prod.mk.injEq]at hv;obtain⟨hv,-⟩:=hv;cases hf:f z with
  |none=>
   rw[hf]at h3;rw[Go.Maps.atKey_of_not_has h3]at hv;simpa using hv
  |some y=>
   rw[hf]at h3;have:=h4 y hf;rw[atKey_zero h1.isMap h3 _ (.held undef),this]at hv;simpa using hv
 unfold Oper.wp;simp[execOp,hop,hm,hx,hrun,Result.andThen];rw[hval];exact hK' _ _ hK
theorem Zax(hg:o.guard=none)(m x:Operand)(t:TypeId)(hop:o.op=Op.lookup t m x false)(ht:P.underlying t=some (.map k e))(hk:P.underlying k=some (.int κ))(z0:Value)(hz:(zeroValue e).run P w=.ok z0 w)
  (hm:a.eval m=.map (some b)) (hown:w.vmap P k κ b n f) (z:Int) (hx:a.eval x=.int κ z) (hwf:(Lit.int κ z).wf=true) (y:Value) (hf:f z=some y)
  (hK:wpList P ops Q rest (a.put o.dst y) w):wpList P ops Q (o::rest) a w:=
 Zem hg m x t hop ht hk z0 hz hm hown z hx hwf (by rw[hf];exact hK)
theorem Zgw(hg:o.guard=none)(m x:Operand)(t:TypeId)(hop:o.op=Op.lookup t m x false)(ht:P.underlying t=some (.map k e))(hk:P.underlying k=some (.int κ))(z0:Value)(hz:(zeroValue e).run P w=.ok z0 w)
  (hm:a.eval m=.map (some b)) (hown:w.vmap P k κ b n f) (z:Int) (hx:a.eval x=.int κ z) (hwf:(Lit.int κ z).wf=true) (hf:f z=none)
  (hK:wpList P ops Q rest (a.put o.dst z0) w):wpList P ops Q (o::rest) a w:=
 Zem hg m x t hop ht hk z0 hz hm hown z hx hwf (by rw[hf];exact hK)
theorem World.vmap.run{t:TypeId}(hown:w.vmap P k κ b n f)(ht:P.underlying t=some (.map k e))(hk:P.underlying k=some (.int κ))(z0:Value)(hz:(zeroValue e).run P w=.ok z0 w)(z:Int)(hwf:(Lit.int κ z).wf=true)(y:Value)(hf:f z=some y):
  (Instr.lookup t (.map (some b)) (.int κ z) false).run P w=.ok y w:=by
 obtain⟨D,h1,h2⟩:=hown;obtain⟨v,ps,hrun,hv⟩:=h1.lookup (int_keyed hk) ht hz (zd:=.held z0) (zp:= []) rfl (keyOf_int_mk hk hwf);obtain⟨h3,h4⟩:=h2 z hwf;rw[hf]at h3;have h5:=h4 y hf;simp only [rawElem,Zg,Prod.mk.injEq]at hv;obtain⟨hv,-⟩:=hv;rw[atKey_zero h1.isMap h3 _ (.held undef),h5]at hv;simp only [DataW.held.injEq]at hv;rw[hrun,hv]
theorem World.vmap.store{t:TypeId}(hown:w.vmap P k κ b n f)(ht:P.underlying t=some (.map k e))(hk:P.underlying k=some (.int κ))(hn:n<maxLen)(z:Int)(hwf:(Lit.int κ z).wf=true)(y:Value):
  ∃w',(Instr.mapUpdate t (.map (some b)) (.int κ z) y).run P w=.ok () w'/\w'.vmap P k κ b (n+1) (fun i=>if i=z then some y else f i)/\Chg (fun x=>x=b) w w':=by
 obtain⟨D,h1,h2⟩:=hown;obtain⟨w',hrun,h3,h4⟩:=h1.store (int_keyed hk) ht hn (val:=y) (d:=.held y) (ps:= []) (keyOf_int_mk hk hwf) rfl;refine⟨w',hrun,⟨_,h3,fun i hi=> ?_⟩,mapTurned_chg h4⟩;by_cases hiz:i=z
 ·subst hiz
  simp only [Zf];refine⟨Go.Maps.has_put_same (k:=.int κ i) h1.isMap trivial _,fun v hv=> ?_⟩;cases hv
  exact Go.Maps.atKey_put_same (k:=.int κ i) h1.isMap trivial _ _
 ·simp only [Ze hiz]
  have hne:(Lit.int κ i)≠Lit.int κ z:=fun h=>hiz (by simpa using h)
  obtain⟨k1,k2⟩:=h2 i hi;exact⟨(Go.Maps.has_put_other hne _).trans k1,fun v hv=>(Go.Maps.atKey_put_other hne _ _).trans (k2 v hv)⟩
theorem Zhq(hg:o.guard=none)(m x v:Operand)(t:TypeId)(hop:o.op=Op.mapUpdate t m x v)(ht:P.underlying t=some (.map k e))(hk:P.underlying k=some (.int κ))
  (hm:a.eval m=.map (some b)) (hown:w.vmap P k κ b n f) (hn:n<maxLen) (z:Int) (y:Value) (hx:a.eval x=.int κ z) (hv:a.eval v=y) (hwf:(Lit.int κ z).wf=true)
  (hK:∀w',w'.vmap P k κ b (n+1) (fun i=>if i=z then some y else f i)->Chg (fun x=>x=b) w w'->wpList P ops Q rest (a.put o.dst undef) w'):
  wpList P ops Q (o::rest) a w:=by
 obtain⟨D,h1,h2⟩:=hown;refine wpList_mapUpdate_in w hg m x v t hop k e (int_keyed hk) ht rawElem b n D hm h1 hn (.int κ z) y (.int κ z) hx hv (keyOf_int_mk hk hwf) (.held y) [] rfl fun w' h3 h4=> ?_
 refine hK w' ⟨_,h3,fun i hi=> ?_⟩ (mapTurned_chg h4);by_cases hiz:i=z
 ·subst hiz
  simp only [Zf];refine⟨Go.Maps.has_put_same (k:=.int κ i) h1.isMap trivial _,fun v hv=> ?_⟩;cases hv
  exact Go.Maps.atKey_put_same (k:=.int κ i) h1.isMap trivial _ _
 ·simp only [Ze hiz]
  have hne:(Lit.int κ i)≠Lit.int κ z:=fun h=>hiz (by simpa using h)
  obtain⟨k1,k2⟩:=h2 i hi;exact⟨(Go.Maps.has_put_other hne _).trans k1,fun v hv=>(Go.Maps.atKey_put_other hne _ _).trans (k2 v hv)⟩
theorem Zbm(hg:o.guard=none)(m x v:Operand)(t:TypeId)(hop:o.op=Op.insert t m x v)(ht:P.underlying t=some (.map k e))(hk:P.underlying k=some (.int κ))
  (hm:a.eval m=.map (some b)) (hown:w.vmap P k κ b n f) (hn:n<maxLen) (z:Int) (y:Value) (hx:a.eval x=.int κ z) (hv:a.eval v=y) (hwf:(Lit.int κ z).wf=true)
  (hK:∀w',w'.vmap P k κ b (n+1) (fun i=>if i=z then some y else f i)->Chg (fun x=>x=b) w w'->wpList P ops Q rest (a.put o.dst undef) w'):
  wpList P ops Q (o::rest) a w:=by
 obtain⟨D,h1,h2⟩:=hown;refine wpList_plain hg fun K' hK'=> ?_
 obtain⟨w',hrun,h3,h4⟩:=h1.store (int_keyed hk) ht hn (val:=y) (d:=.held y) (ps:= []) (keyOf_int_mk hk hwf) rfl;unfold Oper.wp;simp[execOp,hop,hm,hx,hv,hrun,Result.andThen];refine hK' _ _ (hK w' ⟨_,h3,fun i hi=> ?_⟩ (mapTurned_chg h4));by_cases hiz:i=z
 ·subst hiz
  simp only [Zf];refine⟨Go.Maps.has_put_same (k:=.int κ i) h1.isMap trivial _,fun v hv=> ?_⟩;cases hv
  exact Go.Maps.atKey_put_same (k:=.int κ i) h1.isMap trivial _ _
 ·simp only [Ze hiz]
  have hne:(Lit.int κ i)≠Lit.int κ z:=fun h=>hiz (by simpa using h)
  obtain⟨k1,k2⟩:=h2 i hi;exact⟨(Go.Maps.has_put_other hne _).trans k1,fun v hv=>(Go.Maps.atKey_put_other hne _ _).trans (k2 v hv)⟩
end
end
end Go
namespace Go.Proofs.YtmemlkmnhcealaaGreat
open Value renaming int→O,pointer→Zs
open IntKind renaming i64→Z
open Ending renaming returned→Zu
open Go.Proofs.Tryz renaming prog→Zw
open Go.RowKit
open Lib(hid)
variable {z:Int} {ps:List Pat} {xs:List Value} {B B' C M S g k n q r sz:Nat} {d:Nat->Bool} {f:Nat->List Value} {dv:Nat->Value} {e t:TypeId} {u v vd vp:Value} {w w':World}
def pat0:Pat:=⟨0,0,[]⟩
theorem Zbx(ps:List Pat)(k:Nat)(h:k<ps.length):ps.getD k pat0=ps[k]'h:=by rw[Zi,Zh h];rfl
def patCells(ps:List Pat)(dv:Nat->Value)(j:Nat):List Value:= [O Z (ps.getD j pat0).m,O Z (ps.getD j pat0).r,dv j]
theorem Zbf(ps:List Pat)(dv:Nat->Value)(j:Nat):(patCells ps dv j).length=3:=rfl
theorem Zdi:SliceOf Zw 114 167 3 40:=SliceOf.mk' (z:=.agg #[.int .i64 0,.int .i64 0,.slice none 0 0]) Tryz.underlying114 (by decide) (by kernel_rfl) rfl
structure PRow (w:World) (B:Nat) (v:Value) (ps:List Pat) (k:Nat) (dv:Nat->Value):Prop where
 row:w.ownsRow B 167 3 v k (elems (patCells ps dv) k)
 dat:∀j,j<k->w.ownsRow B 5 1 (dv j) 128 (ucells (ps.getD j pat0).d)
 apart:∀i j,i<j->j<k->∀g,(dv i).ownBlock=some g->(dv j).ownBlock≠some g
theorem PRow.nil(w:World)(B:Nat)(ps:List Pat)(dv:Nat->Value):PRow w B (.slice none 0 0) ps 0 dv:=
 ⟨World.ownsRow_nil _ _ _ _,fun j hj=>by omega,fun i j hi hj=>by omega⟩
theorem Zah{cs:Array Value}(h:w.ownsRow B e sz v n xs)(ha:At w g cs t)(hne:e≠t):v.ownBlock≠some g:=by
 intro hv;rcases h.2 with ⟨rfl,_⟩|⟨g',cap,cur,rfl,_,hg,_⟩
 ·cases hv
 ·simp only [Value.ownBlock,Zg]at hv
  subst hv;unfold At at ha;rw[hg]at ha;simp only [Zg,Obj.cells.injEq]at ha;exact hne ha.2.1
theorem Zbl{sz' m:Nat}{ys:List Value}(h:w.ownsRow B e sz v n xs)(h':w.ownsRow B' t sz' u m ys)(hne:e≠t)(hu:u.ownBlock=some g):v.ownBlock≠some g:=by
 rcases h'.2 with ⟨rfl,_⟩|⟨g',cap,cur,rfl,_,hg,_⟩
 ·cases hu
 ·simp only [Value.ownBlock,Zg]at hu
  subst hu;exact Zah (cs:=cur) h hg hne
theorem PRow.mod{S:Nat->Prop}(h:PRow w B v ps k dv)(hc:Chg S w w')(h1:∀g,v.ownBlock=some g->¬S g)(h2:∀j,j<k->∀g,(dv j).ownBlock=some g->¬S g):PRow w' B v ps k dv:=
 ⟨Zad h.row hc h1,fun j hj=>Zad (h.dat j hj) hc (h2 j hj),h.apart⟩
theorem PRow.below(h:PRow w B v ps k dv)(hb:Below w.heap.size w w'):PRow w' B v ps k dv:=
 h.mod (Zm hb (fun _=>False)) (fun _ _ h=>h) (fun _ _ _ _ h=>h)
theorem PRow.lower(h:PRow w B v ps k dv)(hB:B'≤B):PRow w B' v ps k dv:=
 ⟨Zan h.row hB,fun j hj=>Zan (h.dat j hj) hB,h.apart⟩
theorem Zcx{g:Nat->List Value}(h:∀j,j<n->f j=g j):elems f n=elems g n:=by
 unfold elems;induction n with
 |zero=>rfl
 |succ n ih=>
  rw[List.range_succ,List.flatMap_append,List.flatMap_append,ih (fun j hj=>h j (by omega))];simp[h n (by omega)]
theorem PRow.next{wr w2 w5:World}{v':Value}(h:PRow wr B v ps k dv)(hB:B≤wr.heap.size)
  (hu:w2.ownsRow wr.heap.size 5 1 u 128 (ucells (ps.getD k pat0).d)) (h12:Below wr.heap.size wr w2) {S:Nat->Prop} (h25:Chg S w2 w5)
  (hS:∀g,S g->(∀j,j<k->(dv j).ownBlock≠some g)/\u.ownBlock≠some g)
  (hrow:w5.ownsRow B 167 3 v' (k+1) (elems (patCells ps dv) k++ [O Z (ps.getD k pat0).m,O Z (ps.getD k pat0).r,u])):
  PRow w5 B v' ps (k+1) (fun j=>if j=k then u else dv j):=by
 refine⟨?_,fun j hj=> ?_,fun i j hij hj g hg=> ?_⟩
 ·rw[Zdg,Zcx (g:=patCells ps dv) (fun j hj=>by show [_,_,(if j=k then u else dv j)]=_;rw[Ze (by omega)];rfl)]
  have e:patCells ps (fun j=>if j=k then u else dv j) k= [O Z (ps.getD k pat0).m,O Z (ps.getD k pat0).r,u]:=by show [_,_,(if k=k then u else dv k)]=_;rw[Zf rfl]
  rw[e];exact hrow
 ·show w5.ownsRow B _ 1 (if j=k then u else dv j) 128 _
  by_cases hjk:j=k
  ·rw[Zf hjk,hjk]
   exact Zad (Zan hu hB) h25 (fun g hg hs=>(hS g hs).2 hg)
  ·rw[Ze hjk]
   exact Zad (Zad (h.dat j (by omega)) (Zm h12 (fun _=>False)) (fun _ _ h=>h)) h25 (fun g hg hs=>(hS g hs).1 j (by omega) hg)
 ·have hg':(dv i).ownBlock=some g:=by rw[Ze (by omega)]at hg;exact hg
  show(if j=k then u else dv j).ownBlock≠some g
  by_cases hjk:j=k
  ·rw[Zf hjk]
   intro hug;have h1:=(hu.lt g hug).1;have h2:=((h.dat i (by omega)).lt g hg').2;omega
  ·rw[Ze hjk]
   exact h.apart i j hij (by omega) g hg'
theorem Zb5{c:Nat}(h:w.ownsRow B e 3 (.slice (some ⟨g,0,none⟩) n c) n (elems f n))(hf:∀k,(f k).length=3)(j i:Nat)(hj:j<n)(hi:i<3):w.cell? ⟨g,j*3+i,none⟩=(f j)[i]?:=by
 have hx:=Zou hf n j i hj hi;have hlen:i<(f j).length:=by rw[hf];exact hi
 rw[Zh hlen]at hx ⊢;have:=h.cells (g:=g) rfl (j*3+i) _ hx;rw[Go.WideShapes.add_plain,Nat.zero_add]at this;exact this
theorem Ze5(W:World)(x y z:Value)(t:TypeId)(ad:Addr)(had:ad=⟨W.heap.size,0,none⟩):∀j u,[x,y,z][j]?=some u->(W.alloc (.cells #[x,y,z] t)).cell? (ad.add j)=some u:=by
 intro j u hj;subst had;rw[Go.WideShapes.add_plain,Nat.zero_add,(At.new W #[x,y,z] t).cell j,List.getElem?_toArray];exact hj
theorem PRow.len(h:PRow w B v ps k dv)(j:Nat)(hj:j<k):(ps.getD j pat0).d.length=128:=by
 have:=(h.dat j hj).1;rw[Zag]at this;omega
theorem PRow.pseg(h:PRow w B v ps ps.length dv)(hfew:ps.length≤140737488355328):PSeg w v ps:=by
 obtain⟨a,c,rfl⟩:=Zab h.row;refine⟨a,c,rfl,hfew,fun p hp=> ?_,?_⟩
 ·obtain⟨j,hj,rfl⟩:=List.getElem_of_mem hp
  have:=h.len j hj;rw[Zi,Zh hj]at this;simp only [Option.getD_some]at this;omega
 ·by_cases hl:ps.length=0
  ·exact .inl (List.eq_nil_of_length_eq_zero hl)
  ·obtain⟨g,cap,hv,hB,hg⟩:=Zas h.row (by omega)
   simp only [Zn]at hv;obtain⟨rfl,-,rfl⟩:=hv;refine .inr ⟨g,0,rfl,hg,fun j hj=> ?_⟩;have e:ps.getD j pat0=ps[j]:=by rw[Zi,Zh hj];rfl
   have c0:=Zb5 h.row (Zbf ps dv) j 0 hj (by omega);have c1:=Zb5 h.row (Zbf ps dv) j 1 hj (by omega);have c2:=Zb5 h.row (Zbf ps dv) j 2 hj (by omega);rw[Nat.zero_add];refine⟨by rw[show j*3=j*3+0 by omega,c0,<-e];rfl,by rw[c1,<-e];rfl,dv j,by rw[c2];rfl,?_⟩;have hd:=h.dat j hj;rw[e]at hd;have hl:=h.len j hj;rw[e]at hl;exact Zao (by rw[hl];exact hd)
end Go.Proofs.YtmemlkmnhcealaaGreat
