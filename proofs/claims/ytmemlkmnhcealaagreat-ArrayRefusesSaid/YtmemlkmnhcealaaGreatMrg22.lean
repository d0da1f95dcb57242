
/- Several texts in one: HpC, HpD, HpE, KMap, LftA, LftB. -/
import Derived.Test.YtmemlkmnhcealaaGreatHpB
import Derived.DeepKeys4
set_option linter.unusedVariables false
set_option maxRecDepth 100000
set_option maxHeartbeats 8000000
namespace Go.Proofs.YtmemlkmnhcealaaGreat
open Value renaming int→O,pointer→Zs,slice→Zt
open IntKind renaming i64→Z
open Go.Proofs.Tryz renaming prog→Zw
open Go.RowKit
open Lib(hid)
variable {cs:Array Value} {row:Int} {L:List PL} {B b hm lp n o:Nat} {S:Nat->Prop} {P:Program} {α:Type} {k t:TypeId} {v va:Value} {w w' w1 w2:World}
theorem Zkw(a:Addr)(w:World)(x:Option Addr)(n c:Nat)(h:w.cell? a=some (Zt x n c)):(loadVar 314 a).run Zw w=.ok (Zt x n c) w:=by
 have hg:∀w,(isAgg 314).run Zw w=.ok false w:=fun w=>by kernel_rfl
 simp[loadVar,hg,h,Result.andThen]
theorem Zk1 (F : Nat) (a : Addr) (w : World) (x : Option Addr) (n c : Nat) (h : w.cell? a = some (Zt x n c)) : (method (F + 1) 323 (Zs (some a)) "Len").run Zw w = .ok (325, Zt x n c) w := by
 have e : (method (F + 1) 323 (Zs (some a)) "Len").run Zw w = (do let v <- loadVar 314 a; pure (325, v) : Sem (FuncId × Value)).run Zw w := by kernel_rfl
 refine e.trans ?_;simp[Zkw a w x n c h,Result.andThen]
theorem Zju (F : Nat) (a : Addr) (w : World) (x : Option Addr) (n c : Nat) (h : w.cell? a = some (Zt x n c)) : (method (F + 1) 323 (Zs (some a)) "Less").run Zw w = .ok (326, Zt x n c) w := by
 have e : (method (F + 1) 323 (Zs (some a)) "Less").run Zw w = (do let v <- loadVar 314 a; pure (326, v) : Sem (FuncId × Value)).run Zw w := by kernel_rfl
 refine e.trans ?_;simp[Zkw a w x n c h,Result.andThen]
theorem Zfv (F : Nat) (a : Addr) (w : World) (x : Option Addr) (n c : Nat) (h : w.cell? a = some (Zt x n c)) : (method (F + 1) 323 (Zs (some a)) "Swap").run Zw w = .ok (327, Zt x n c) w := by
 have e : (method (F + 1) 323 (Zs (some a)) "Swap").run Zw w = (do let v <- loadVar 314 a; pure (327, v) : Sem (FuncId × Value)).run Zw w := by kernel_rfl
 refine e.trans ?_;simp[Zkw a w x n c h,Result.andThen]
theorem Zo9 (F : Nat) (a : Addr) (w : World) : (method (F + 1) 323 (Zs (some a)) "Push").run Zw w = .ok (329, Zs (some a)) w := by kernel_rfl
theorem Zq8 (F : Nat) (a : Addr) (w : World) : (method (F + 1) 323 (Zs (some a)) "Pop").run Zw w = .ok (328, Zs (some a)) w := by kernel_rfl
theorem Zcu (F : Nat) (a : Addr) (w : World) : (nilAhead (F + 1) 323 (Zs (some a)) "Less").run Zw w = .ok (some false) w /\ (nilAhead (F + 1) 323 (Zs (some a)) "Len").run Zw w = .ok (some false) w /\ (nilAhead (F + 1) 323 (Zs (some a)) "Swap").run Zw w = .ok (some false) w /\ (nilAhead (F + 1) 323 (Zs (some a)) "Push").run Zw w = .ok (some false) w /\ (nilAhead (F + 1) 323 (Zs (some a)) "Pop").run Zw w = .ok (some false) w :=
 ⟨by kernel_rfl,by kernel_rfl,by kernel_rfl,by kernel_rfl,by kernel_rfl⟩
structure HeapAt (w:World) (B lp o:Nat) (cs:Array Value) (t:TypeId) (v:Value) (L:List PL):Prop where
 row:WayRow w B v L
 box:At w lp cs t
 cell:cs[o]?=some v
 ne:318≠t
 few:L.length≤100000
 lo:B≤w.heap.size
theorem HeapAt.hd(h:HeapAt w B lp o cs t v L):w.cell? ⟨lp,o,none⟩=some v:=(h.box.cell o).trans h.cell
theorem HeapAt.below(h:HeapAt w B lp o cs t v L)(hb:Below w.heap.size w w'):HeapAt w' B lp o cs t v L:=
 ⟨Zaf h.row hb (Za _),h.box.below hb h.box.lt,h.cell,h.ne,h.few,Zc h.lo hb.size⟩
theorem HeapAt.swapped{L':List PL}(h:HeapAt w B lp o cs t v L)(hr:WayRow w' B v L')(hl:L'.length=L.length)(hc:Chg (fun k=>v.ownBlock=some k) w w'):HeapAt w' B lp o cs t v L':=
 ⟨hr,h.box.mod hc (Za4 h.row h.box h.ne),h.cell,h.ne,by rw[hl];exact h.few,Zc h.lo hc.size⟩
theorem Zrg(h:Chg S w w1)(hb:Below w1.heap.size w1 w2):Chg S w w2:=h.trans (Zm hb _)
theorem Zwl(v:Value)(L:List PL)(B lp o j:Nat)(w:World)(h:HeapAt w B lp o cs t v L)(hj:j<L.length):
  Calls Zw 275 #[.iface 323 (Zs (some ⟨lp,o,none⟩)),O Z j] w fun e w'=>e=.returned (.tuple #[])/\∃L',L'.Perm L/\HeapAt w' B lp o cs t v L'/\Chg (fun k=>v.ownBlock=some k) w w':=by
 obtain⟨va,vc,hv⟩:=Zab h.row;have HV:=hid hv;have H:=hid h;clear h hv;go_enter Tryz.func275,Tryz.ntmps275;go_wp2;go_loopw [1] (fun q wr=>∃(k:Nat) (L':List PL),q=O Z k/\k<L'.length/\L'.Perm L/\HeapAt wr B lp o cs t v L'/\Chg (fun k=>v.ownBlock=some k) w wr) (fun q _=>(intOf q).toNat);case atStart=>exact⟨j,L,rfl,hj,List.Perm.refl _,H.out,Zl _ _⟩
 case round=>
  obtain⟨k,L',rfl,hk,hp,hh,hc⟩:=hrel;match k,hk with
  |0,hk=>
   have HH:=hid hh;have HP:=hid hp;have HC:=hid hc;clear hh hp hc;go_wp2;go_end0;exact⟨rfl,L',HP.out,HH.out,HC.out⟩
  |k+1,hk=>
   obtain⟨i,hi⟩:∃i,i=k/2:=⟨_,rfl⟩;have hik:i<k+1:=by omega
   have hiL:i<L'.length:=by omega
   have hq:Int.tdiv (k:Int) 2=(i:Int):=by rw[Int.tdiv_eq_ediv_of_nonneg (by omega),hi];omega
   have hL:=hp.length_eq;have hk1:((k+1:Nat):Int)=(k:Int)+1:=by omega
   have hfew := hh.few; have hhd := hh.hd; rw [HV.out] at hhd; have hml : (method 500 323 (Zs (some ⟨lp, o, none⟩)) "Less").run Zw wr = .ok (326, Zt va L.length vc) wr := Zju 499 ⟨lp, o, none⟩ wr va L.length vc hhd; have HLS : Hid (Calls Zw 326 #[Zt va L.length vc, O Z ((k : Int) + 1), O Z i] wr fun e w' => e = .returned (.bool (lessL L'[k + 1] L'[i])) /\ Below wr.heap.size wr w') := by
    have:=Zox v L' B (k+1) i wr hh.row hk hiL (by omega);rw[HV.out,hk1]at this;exact this
   generalize lessL L'[k+1] L'[i]=b at*;have HH:=hid hh;have HP:=hid hp;have HC:=hid hc;clear hh hp hc hhd hi;have hne:((i:Int)==(k:Int)+1)=false:=by simp;omega
   cases b
   ·go_wp2_with (first
     |(go_at_call 326;(with_reducible refine HLS.out.mono ?_);rintro e w1 ⟨rfl,hb1⟩;have HB1:=hid hb1;clear hb1))
    go_end0
    exact⟨rfl,L',HP.out,HH.out.below HB1.out,Zrg HC.out HB1.out⟩
   ·go_wp2_with (first
     | (go_at_call 326; (with_reducible refine HLS.out.mono ?_); rintro e w1 ⟨rfl, hb1⟩; have HB1 := hid hb1; have HH1 := hid (HH.out.below hb1); have hhd1 := HH1.out.hd; rw [HV.out] at hhd1; have hms : (method 500 323 (Zs (some ⟨lp, o, none⟩)) "Swap").run Zw w1 = .ok (327, Zt va L.length vc) w1 := Zfv 499 ⟨lp, o, none⟩ w1 va L.length vc hhd1; have hsw := Zkl v L' B i (k + 1) w1 HH1.out.row hiL hk (by omega); rw [HV.out, hk1] at hsw; have HSW := hid hsw; clear hb1 hhd1 hsw)
     |(go_at_call 327;(with_reducible refine HSW.out.mono ?_);rintro e w2 ⟨rfl,hr2,hc2⟩;rw[<-HV.out]at hr2 hc2;have HR2:=hid hr2;have HC2:=hid hc2;clear hr2 hc2))
    exact⟨⟨i,swapL L' i (k+1),rfl,by rw[Za1];exact hiL,(Zdh L' i (k+1) hiL hk).trans HP.out,HH1.out.swapped HR2.out (Za1 _ _ _) HC2.out,(Zrg HC.out HB1.out).trans HC2.out⟩,by simp[intOf];omega⟩
open Go.RowKit
theorem Zuo{va:Option Addr}{vc:Nat}(h:HeapAt w B lp o cs t (Zt va n vc) L):
  ∃ le : Nat -> Nat -> Bool, ∀ W, Below w.heap.size w W -> (method 500 323 (Zs (some ⟨lp, o, none⟩)) "Less").run Zw W = .ok (326, Zt va n vc) W /\ (method 500 323 (Zs (some ⟨lp, o, none⟩)) "Swap").run Zw W = .ok (327, Zt va n vc) W /\
   (nilAhead 500 323 (Zs (some ⟨lp, o, none⟩)) "Less").run Zw W = .ok (some false) W /\ (nilAhead 500 323 (Zs (some ⟨lp, o, none⟩)) "Swap").run Zw W = .ok (some false) W /\
   (∀(x y:Nat) (xi yi:Int),x<L.length->y<L.length->xi=x->yi=y->Calls Zw 326 #[Zt va n vc,O Z xi,O Z yi] W fun e w'=>e=.returned (.bool (le x y))/\Below w.heap.size w w')/\
   (∀(x y:Nat) (xi yi:Int),x<L.length->y<L.length->xi=x->yi=y->Calls Zw 327 #[Zt va n vc,O Z xi,O Z yi] W fun e w'=>e=.returned (.tuple #[])/\HeapAt w' B lp o cs t (Zt va n vc) (swapL L x y)/\Chg (fun k=>(Value.slice va n vc).ownBlock=some k) w w'):=by
 refine⟨fun x y=>lessL (L.getD x (0,0)) (L.getD y (0,0)),fun W hb=> ?_⟩;have h':=h.below hb;refine⟨Zju 499 _ W _ _ _ h'.hd,Zfv 499 _ W _ _ _ h'.hd,(Zcu 499 _ W).1,(Zcu 499 _ W).2.2.1,fun x y xi yi hx hy ex ey=> ?_,fun x y xi yi hx hy ex ey=> ?_⟩
 ·subst ex ey
  simp only [Zi,Zh hx,Zh hy,Option.getD_some]
  exact(Zox _ L B x y W h'.row hx hy (by have:=h.few;omega)).mono (by
   rintro e w' ⟨rfl,hb'⟩
   exact⟨rfl,hb.trans (hb'.mono hb.size)⟩)
 ·subst ex ey
  exact(Zkl _ L B x y W h'.row hx hy (by have:=h.few;omega)).mono (by
   rintro e w' ⟨rfl,hr,hc⟩
   exact⟨rfl,h'.swapped hr (Za1 _ _ _) hc,(Zm hb _).trans hc⟩)
theorem Zf2(L:List PL)(i j n:Nat)(hi:i<n)(hj:j<n):(swapL L i j).drop n=L.drop n:=by
 unfold swapL;rw[List.drop_set,Zf hj,List.drop_set,Zf hi]
theorem Zq6(v:Value)(L:List PL)(B lp o n:Nat)(w:World)(h:HeapAt w B lp o cs t v L)(hn:n≤L.length)(hL:0<L.length):
  Calls Zw 276 #[.iface 323 (Zs (some ⟨lp,o,none⟩)),O Z 0,O Z n] w fun e w'=>(∃u,e=.returned u)/\∃L',L'.Perm L/\(L'.drop n=L.drop n)/\HeapAt w' B lp o cs t v L'/\Chg (fun k=>v.ownBlock=some k) w w':=by
 obtain⟨va,vc,hv⟩:=Zab h.row;have HV:=hid hv;have H:=hid h;have hfew:=h.few;clear h hv;go_enter Tryz.func276,Tryz.ntmps276;go_wp2;go_loopw [7] (fun q wr=>∃(k:Nat) (L':List PL),q=O Z k/\k<L'.length/\L'.Perm L/\L'.drop n=L.drop n/\HeapAt wr B lp o cs t v L'/\Chg (fun k=>v.ownBlock=some k) w wr) (fun q _=>L.length-(intOf q).toNat);case atStart=>exact⟨0,L,rfl,hL,List.Perm.refl _,rfl,H.out,Zl _ _⟩
 case round=>
  obtain⟨k,L',rfl,hk,hp,hd,hh,hc⟩:=hrel;have hLL:=hp.length_eq;have hh':=hh;rw[HV.out]at hh';obtain⟨le,hask⟩:=Zuo hh';have HK:=hid hask;have HH:=hid hh;have HP:=hid hp;have HD:=hid hd;have HC:=hid hc;obtain⟨m1,m2,m3,m4,-⟩:=hask wr (Zb _ _);clear hh hp hd hc hask hh';by_cases h1:n≤2*k+1
  ·as_aux_lemma=>
    go_wp2;go_ret;exact⟨⟨_,rfl⟩,L',HP.out,HD.out,HH.out,HC.out⟩
  ·by_cases h2:2*k+2<n
   ·cases hb1:le (2*k+2) (2*k+1)
    ·have HB1:=hid hb1
     clear hb1;cases hb2:le (2*k+1) k
     ·have HB2:=hid hb2
      clear hb2;as_aux_lemma=>
       go_wp2_with (first
        |(go_at_call 326;(with_reducible refine((HK.out wr (Zb _ _)).2.2.2.2.1 (2*k+2) (2*k+1) _ _ (by omega) (by omega) (by omega) (by omega)).mono ?_);rintro e w1 ⟨rfl,hb1⟩;rw[HB1.out];obtain⟨p1,p2,p3,p4,-⟩:=HK.out w1 hb1;have HBB:=hid hb1;clear hb1)
        |(go_at_call 326;(with_reducible refine((HK.out _ HBB.out).2.2.2.2.1 (2*k+1) k _ _ (by omega) (by omega) (by omega) (by omega)).mono ?_);rintro e w2 ⟨rfl,hb2⟩;rw[HB2.out];obtain⟨q1,q2,q3,q4,-⟩:=HK.out w2 hb2;have HBC:=hid hb2;clear hb2))
       go_ret;exact⟨⟨_,rfl⟩,L',HP.out,HD.out,HH.out.below HBC.out,Zrg HC.out HBC.out⟩
     ·have HB2:=hid hb2
      clear hb2;as_aux_lemma=>
       go_wp2_with (first
        |(go_at_call 326;(with_reducible refine((HK.out wr (Zb _ _)).2.2.2.2.1 (2*k+2) (2*k+1) _ _ (by omega) (by omega) (by omega) (by omega)).mono ?_);rintro e w1 ⟨rfl,hb1⟩;rw[HB1.out];obtain⟨p1,p2,p3,p4,-⟩:=HK.out w1 hb1;have HBB:=hid hb1;clear hb1)
        |(go_at_call 326;(with_reducible refine((HK.out _ HBB.out).2.2.2.2.1 (2*k+1) k _ _ (by omega) (by omega) (by omega) (by omega)).mono ?_);rintro e w2 ⟨rfl,hb2⟩;rw[HB2.out];obtain⟨q1,q2,q3,q4,-⟩:=HK.out w2 hb2;have HBC:=hid hb2;clear hb2)
        |(go_at_call 327;(with_reducible refine((HK.out _ HBC.out).2.2.2.2.2 k (2*k+1) _ _ (by omega) (by omega) (by omega) (by omega)).mono ?_);rintro e w3 ⟨rfl,hh3,hc3⟩;rw[<-HV.out]at hh3 hc3;have HH3:=hid hh3;have HC3:=hid hc3;clear hh3 hc3))
       exact⟨⟨2*k+1,swapL L' k (2*k+1),by go_num,by rw[Za1];omega,(Zdh L' k (2*k+1) (by omega) (by omega)).trans HP.out,(Zf2 L' k (2*k+1) n (by omega) (by omega)).trans HD.out,HH3.out,HC.out.trans HC3.out⟩,by simp[intOf];omega⟩
    ·have HB1:=hid hb1
     clear hb1;cases hb2:le (2*k+2) k
     ·have HB2:=hid hb2
      clear hb2;as_aux_lemma=>
       go_wp2_with (first
        |(go_at_call 326;(with_reducible refine((HK.out wr (Zb _ _)).2.2.2.2.1 (2*k+2) (2*k+1) _ _ (by omega) (by omega) (by omega) (by omega)).mono ?_);rintro e w1 ⟨rfl,hb1⟩;rw[HB1.out];obtain⟨p1,p2,p3,p4,-⟩:=HK.out w1 hb1;have HBB:=hid hb1;clear hb1)
        |(go_at_call 326;(with_reducible refine((HK.out _ HBB.out).2.2.2.2.1 (2*k+2) k _ _ (by omega) (by omega) (by omega) (by omega)).mono ?_);rintro e w2 ⟨rfl,hb2⟩;rw[HB2.out];obtain⟨q1,q2,q3,q4,-⟩:=HK.out w2 hb2;have HBC:=hid hb2;clear hb2))
       go_ret;exact⟨⟨_,rfl⟩,L',HP.out,HD.out,HH.out.below HBC.out,Zrg HC.out HBC.out⟩
     ·have HB2:=hid hb2
      clear hb2;as_aux_lemma=>
       go_wp2_with (first
        |(go_at_call 326;(with_reducible refine((HK.out wr (Zb _ _)).2.2.2.2.1 (2*k+2) (2*k+1) _ _ (by omega) (by omega) (by omega) (by omega)).mono ?_);rintro e w1 ⟨rfl,hb1⟩;rw[HB1.out];obtain⟨p1,p2,p3,p4,-⟩:=HK.out w1 hb1;have HBB:=hid hb1;clear hb1)
        |(go_at_call 326;(with_reducible refine((HK.out _ HBB.out).2.2.2.2.1 (2*k+2) k _ _ (by omega) (by omega) (by omega) (by omega)).mono ?_);rintro e w2 ⟨rfl,hb2⟩;rw[HB2.out];obtain⟨q1,q2,q3,q4,-⟩:=HK.out w2 hb2;have HBC:=hid hb2;clear hb2)
        |(go_at_call 327;(with_reducible refine((HK.out _ HBC.out).2.2.2.2.2 k (2*k+2) _ _ (by omega) (by omega) (by omega) (by omega)).mono ?_);rintro e w3 ⟨rfl,hh3,hc3⟩;rw[<-HV.out]at hh3 hc3;have HH3:=hid hh3;have HC3:=hid hc3;clear hh3 hc3))
       exact⟨⟨2*k+2,swapL L' k (2*k+2),by go_num,by rw[Za1];omega,(Zdh L' k (2*k+2) (by omega) (by omega)).trans HP.out,(Zf2 L' k (2*k+2) n (by omega) (by omega)).trans HD.out,HH3.out,HC.out.trans HC3.out⟩,by simp[intOf];omega⟩
   ·cases hb2:le (2*k+1) k
    ·have HB2:=hid hb2
     clear hb2;as_aux_lemma=>
      go_wp2_with (first
       |(go_at_call 326;(with_reducible refine((HK.out wr (Zb _ _)).2.2.2.2.1 (2*k+1) k _ _ (by omega) (by omega) (by omega) (by omega)).mono ?_);rintro e w2 ⟨rfl,hb2⟩;rw[HB2.out];obtain⟨q1,q2,q3,q4,-⟩:=HK.out w2 hb2;have HBC:=hid hb2;clear hb2))
      go_ret;exact⟨⟨_,rfl⟩,L',HP.out,HD.out,HH.out.below HBC.out,Zrg HC.out HBC.out⟩
    ·have HB2:=hid hb2
     clear hb2;as_aux_lemma=>
      go_wp2_with (first
       |(go_at_call 326;(with_reducible refine((HK.out wr (Zb _ _)).2.2.2.2.1 (2*k+1) k _ _ (by omega) (by omega) (by omega) (by omega)).mono ?_);rintro e w2 ⟨rfl,hb2⟩;rw[HB2.out];obtain⟨q1,q2,q3,q4,-⟩:=HK.out w2 hb2;have HBC:=hid hb2;clear hb2)
       |(go_at_call 327;(with_reducible refine((HK.out _ HBC.out).2.2.2.2.2 k (2*k+1) _ _ (by omega) (by omega) (by omega) (by omega)).mono ?_);rintro e w3 ⟨rfl,hh3,hc3⟩;rw[<-HV.out]at hh3 hc3;have HH3:=hid hh3;have HC3:=hid hc3;clear hh3 hc3))
      exact⟨⟨2*k+1,swapL L' k (2*k+1),by go_num,by rw[Za1];omega,(Zdh L' k (2*k+1) (by omega) (by omega)).trans HP.out,(Zf2 L' k (2*k+1) n (by omega) (by omega)).trans HD.out,HH3.out,HC.out.trans HC3.out⟩,by simp[intOf];omega⟩
open Go.RowKit
theorem Zog{S':Nat->Prop}(h1:Chg S w w1)(h2:Chg S' w1 w2)(h:∀q,q<w.heap.size->S' q->S q):Chg S w w2:=
 ⟨h2.os.trans h1.os,h2.tape.trans h1.tape,h2.output.trans h1.output,Zc h1.size h2.size,fun k hk hs=>(h2.block k (Zd hk h1.size) (fun e=>hs (h k hk e))).trans (h1.block k hk hs)⟩
theorem Zsi(v:Value)(L:List PL)(B lp o:Nat)(x y:Int)(w:World)(h:HeapAt w B lp o cs t v L)(hfew:L.length<100000)(ho:o<cs.size):
  Calls Zw 229 #[.iface 323 (Zs (some ⟨lp,o,none⟩)),.iface 318 (.agg #[O Z x,O Z y])] w fun e w'=>e=.returned (.tuple #[])/\∃v' L',L'.Perm (L++ [(x,y)])/\HeapAt w' B lp o (cs.setIfInBounds o v') t v' L'/\Chg (fun k=>k=lp\/v.ownBlock=some k) w w'/\(∀g,v'.ownBlock=some g->v.ownBlock=some g\/w.heap.size≤g):=by
 have HP := hid (Zup v L B lp o x y w h.row h.lo (by omega) h.box h.ne h.cell); have hmp : (method 500 323 (Zs (some ⟨lp, o, none⟩)) "Push").run Zw w = .ok (329, Zs (some ⟨lp, o, none⟩)) w := Zo9 499 _ _; have hnp : (nilAhead 500 323 (Zs (some ⟨lp, o, none⟩)) "Push").run Zw w = .ok (some false) w := (Zcu 499 _ _).2.2.2.1; have HH := hid h; clear h; go_enter Tryz.func229, Tryz.ntmps229
 go_wp2_with (first
  | (go_at_call 329; (with_reducible refine HP.out.mono ?_); rintro e w1 ⟨rfl, hx⟩; have HX := hid hx; clear hx HP; obtain ⟨v', hr1, ha1, hv1, hc1⟩ := HX.out; have e1 : (L ++ [(x, y)]).length = L.length + 1 := (by simp); obtain ⟨L1, hL1⟩ : ∃ L1, L1 = L ++ [(x, y)] := ⟨_, rfl⟩; have HL1 := hid hL1; rw [<- hL1] at hr1 e1; clear hL1; have HH1 : Hid (HeapAt w1 B lp o (cs.setIfInBounds o v') t v' L1) := (by exact ⟨hr1, ha1, by simp [ho], HH.out.ne, by omega, Zc HH.out.lo hc1.size⟩); obtain ⟨va, vc, hv⟩ := Zab hr1; rw [e1] at hv; have HV := hid hv; have hhd := HH1.out.hd; rw [hv] at hhd; have hml : (method 500 323 (Zs (some ⟨lp, o, none⟩)) "Len").run Zw w1 = .ok (325, Zt va (L.length + 1) vc) w1 := Zk1 499 _ _ _ _ _ hhd; have hnl : (nilAhead 500 323 (Zs (some ⟨lp, o, none⟩)) "Len").run Zw w1 = .ok (some false) w1 := (Zcu 499 _ _).2.1; have hLE := Zsc v' L1 B w1 hr1; rw [hv, e1] at hLE; have HLE := hid hLE; have HUP := hid (Zwl v' L1 B lp o L.length w1 HH1.out (by omega)); have hwr : IntKind.i64.wrap (((L.length : Int) + 1) - 1) = (L.length : Int) := (by rw [IntKind.wrap_i64]; omega); have HW1 := hid hv1; have HC1 := hid hc1; clear hr1 ha1 hc1 hv1 hv hhd hLE HX e1)
  |(go_at_call 325;(with_reducible refine HLE.out.mono ?_);rintro e w2 ⟨rfl,rfl⟩)
  |(go_at_call 275;(with_reducible refine HUP.out.mono ?_);rintro e w3 ⟨rfl,hx⟩;have HX:=hid hx;clear hx))
 go_end0;obtain⟨L',h1,h2,h3⟩:=HX.out;exact⟨rfl,v',L',by rw[<-HL1.out];exact h1,h2,Zog HC1.out h3 (fun q hq hs=>(HW1.out q hs).elim .inr (fun e=>absurd hq (by omega))),HW1.out⟩
theorem Zto(v:Value)(L:List PL)(B lp o:Nat)(w:World)(h:HeapAt w B lp o cs t v L)(hL:0<L.length)(ho:o<cs.size):
  Calls Zw 230 #[.iface 323 (Zs (some ⟨lp,o,none⟩))] w fun e w'=>∃(x y:Int) (v':Value) (L':List PL),e=.returned (.iface 318 (.agg #[O Z x,O Z y]))/\((x,y)::L').Perm L/\HeapAt w' B lp o (cs.setIfInBounds o v') t v' L'/\Chg (fun k=>k=lp\/v.ownBlock=some k) w w'/\v'.ownBlock=v.ownBlock:=by
 obtain ⟨va, vc, hv⟩ := Zab h.row; subst hv; obtain ⟨n, hn⟩ : ∃ n, L.length = n + 1 := ⟨L.length - 1, by omega⟩; have hfew := h.few; rw [hn] at hfew h; have hml : (method 500 323 (Zs (some ⟨lp, o, none⟩)) "Len").run Zw w = .ok (325, Zt va (n + 1) vc) w := Zk1 499 _ _ _ _ _ h.hd; have hnl : (nilAhead 500 323 (Zs (some ⟨lp, o, none⟩)) "Len").run Zw w = .ok (some false) w := (Zcu 499 _ _).2.1; have hms : (method 500 323 (Zs (some ⟨lp, o, none⟩)) "Swap").run Zw w = .ok (327, Zt va (n + 1) vc) w := Zfv 499 _ _ _ _ _ h.hd; have hns : (nilAhead 500 323 (Zs (some ⟨lp, o, none⟩)) "Swap").run Zw w = .ok (some false) w := (Zcu 499 _ _).2.2.1; have hLE := Zsc _ L B w h.row; rw [hn] at hLE; have HLE := hid hLE; clear hLE; have HSW : Hid (Calls Zw 327 #[Zt va (n + 1) vc, O Z 0, O Z n] w fun e w' => e = .returned (.tuple #[]) /\ WayRow w' B (Zt va (n + 1) vc) (swapL L 0 n) /\ Chg (fun k => (Value.slice va (n + 1) vc).ownBlock = some k) w w') := Zkl _ L B 0 n w h.row (by omega) (by omega) (by omega); have hmp : ∀ W, (method 500 323 (Zs (some ⟨lp, o, none⟩)) "Pop").run Zw W = .ok (328, Zs (some ⟨lp, o, none⟩)) W := fun W => Zq8 499 _ _
 have hnp : ∀ W, (nilAhead 500 323 (Zs (some ⟨lp, o, none⟩)) "Pop").run Zw W = .ok (some false) W := fun W => (Zcu 499 _ _).2.2.2.2
 have HH:=hid h;have HN:=hid hn;have HDN:Hid (∀w1,HeapAt w1 B lp o cs t (Zt va (n+1) vc) (swapL L 0 n)->Calls Zw 276 #[.iface 323 (Zs (some ⟨lp,o,none⟩)),O Z 0,O Z n] w1 fun e w'=>(∃u,e=.returned u)/\∃(x y:Int) (A:List PL),((x,y)::A).Perm L/\HeapAt w' B lp o cs t (Zt va (n+1) vc) (A++ [(x,y)])/\Chg (fun k=>(Value.slice va (n+1) vc).ownBlock=some k) w1 w'):=fun w1 h1=>
  (Zq6 _ (swapL L 0 n) B lp o n w1 h1 (by rw[Za1];omega) (by rw[Za1];omega)).mono (by
   rintro e w' ⟨hu,L2,hp,hd,hh,hc⟩
   have hl2:L2.length=n+1:=by rw[hp.length_eq,Za1,HN.out]
   obtain⟨p,hp2⟩:∃p,L2.drop n= [p]:=by
    have:(L2.drop n).length=1:=by rw[List.length_drop,hl2];omega
    match hq:L2.drop n,this with
    | [p],_=>exact⟨p,rfl⟩
   have e2:L2.take n++ [(p.1,p.2)]=L2:=by
    rw[show((p.1,p.2):PL)=p from rfl,<-hp2,List.take_append_drop]
   refine⟨hu,p.1,p.2,L2.take n,?_,by rw[e2];exact hh,hc⟩
   refine List.Perm.trans ?_ (hp.trans (Zdh L 0 n (by rw[HN.out];omega) (by rw[HN.out];omega)))
   have e3:((p.1,p.2)::L2.take n).Perm (L2.take n++ [(p.1,p.2)]):=(List.perm_append_comm (l₁:= [(p.1,p.2)]) (l₂:=L2.take n))
   rw[e2]at e3
   exact e3)
 clear h hn;go_enter Tryz.func230,Tryz.ntmps230
 go_wp2_with (first
  |(go_at_call 325;(with_reducible refine HLE.out.mono ?_);rintro e w2 ⟨rfl,rfl⟩)
  |(go_at_call 327;(with_reducible refine HSW.out.mono ?_);rintro e w1 ⟨rfl,hr1,hc1⟩;have HH1:=hid (HH.out.swapped hr1 (Za1 _ _ _) hc1);have HC1:=hid hc1;clear hr1 hc1)
  |(go_at_call 276;(with_reducible refine(HDN.out _ HH1.out).mono ?_);rintro e w3 ⟨⟨u,rfl⟩,hx⟩;have HX:=hid hx;clear hx;obtain⟨x,y,A,hp3,hh3,hc3⟩:=HX.out;have HPP:=hid (Zv4 _ A B lp o x y w3 hh3.row hh3.lo (by have:=hh3.few;simp at this;omega) hh3.box hh3.ne hh3.cell);have HP3:=hid hp3;have HC3:=hid hc3;have HH3:=hid hh3;clear hp3 hh3 hc3 HX)
  |(go_at_call 328;(with_reducible refine HPP.out.mono ?_);rintro e w4 ⟨rfl,hx⟩;have HX4:=hid hx;clear hx))
 go_ret;rw[HN.out];obtain⟨v',k1,k2,k3,k4⟩:=HX4.out;refine⟨x,y,v',A,rfl,HP3.out,⟨k1,k2,by simp[ho],HH.out.ne,by have:=HH3.out.few;simp at this;omega,Zc HH3.out.lo k4.size⟩,?_,k3⟩;exact((HC1.out.mono fun k hk=>.inr hk).trans (HC3.out.mono fun k hk=>.inr hk)).trans (k4.mono fun k hk=>.inl hk)
end Go.Proofs.YtmemlkmnhcealaaGreat
namespace Go
open Value renaming int→O,pointer→Zs,slice→Zt
open IntKind renaming i64→Z
open Go.RowKit Go.Maps Go.ChangeMaps Go.MapKept
open Lib(hid)
structure KeyEnc (P:Program) (k:TypeId) (α:Type) where
 enc:α->Value
 kl:α->Lit
 key:∀a,keyOf P k (enc a)=some (kl a)
 inj:∀a b,enc a=enc b->a=b
 keyed:Keyed P k
theorem KeyEnc.lit{P:Program}{k:TypeId}{α:Type}(E:KeyEnc P k α){a b:α}(h:E.kl a=E.kl b):a=b:=
 E.inj a b (E.keyed.inj (E.key a) (by rw[E.key b,h]))
def World.kmap{P:Program}{k:TypeId}{α:Type}(w:World)(E:KeyEnc P k α)(b n:Nat)(f:α->Option Value):Prop:=
 ∃D:DataW Value,w.ownsMap P k rawElem b n D/\∀z,Go.Maps.has D (E.kl z)=(f z).isSome/\∀v,f z=some v->D.atKey (E.kl z) (.held undef)=.held v
section
variable {P:Program} {k e:TypeId} {α:Type} {E:KeyEnc P k α} {w w':World} {b n:Nat} {f:α->Option Value}
theorem World.kmap.lt(h:w.kmap E b n f):b<w.heap.size:=by
 obtain⟨D,h,_⟩:=h;exact h.lt
theorem World.kmap_made(w:World)(E:KeyEnc P k α):(w.alloc (.map #[] 0)).kmap E w.heap.size 0 (fun _=>none):=
 ⟨.map [],World.ownsMap_made w P k _,fun z=>⟨rfl,fun v h=>by cases h⟩⟩
theorem World.kmap.mod{S:Nat->Prop}(h:w.kmap E b n f)(hc:Chg S w w')(hS:¬S b):w'.kmap E b n f:=by
 obtain⟨D,⟨es,clock,h1,h2⟩,h3⟩:=h;exact⟨D,⟨es,clock,(hc.block b (lt_of_block h1) hS).trans h1,h2⟩,h3⟩
theorem World.kmap.below(h:w.kmap E b n f)(hb:Below w.heap.size w w'):w'.kmap E b n f:=h.mod (Zm hb (fun _=>False)) (fun h=>h)
theorem World.kmap.mono(h:w.kmap E b n f){m:Nat}(hm:n≤m):w.kmap E b m f:=by
 obtain⟨D,h1,h3⟩:=h;exact⟨D,h1.mono hm,h3⟩
section
variable {ops:Array Oper} {rest:List Oper} {o:Oper} {a:Act} {Q:Exit->Act->World->Prop}
theorem World.kmap.put{D:DataW Value}(h2:∀z,Go.Maps.has D (E.kl z)=(f z).isSome/\∀v,f z=some v->D.atKey (E.kl z) (.held undef)=.held v)(hM:IsMap D)[DecidableEq α](z:α)(y:Value):
  ∀i,Go.Maps.has (D.put (E.kl z) (.held y)) (E.kl i)=(if i=z then some y else f i).isSome/\∀v,(if i=z then some y else f i)=some v->(D.put (E.kl z) (.held y)).atKey (E.kl i) (.held undef)=.held v:=fun i=>by
 by_cases hiz:i=z
 ·subst hiz
  simp only [Zf];refine⟨Go.Maps.has_put_same hM (E.keyed.key (E.key i)) _,fun v hv=> ?_⟩;cases hv
  exact Go.Maps.atKey_put_same hM (E.keyed.key (E.key i)) _ _
 ·simp only [Ze hiz]
  have hne:E.kl i≠E.kl z:=fun h=>hiz (E.lit h)
  obtain⟨k1,k2⟩:=h2 i;exact⟨(Go.Maps.has_put_other hne _).trans k1,fun v hv=>(Go.Maps.atKey_put_other hne _ _).trans (k2 v hv)⟩
theorem World.kmap.store[DecidableEq α]{t:TypeId}(hown:w.kmap E b n f)(ht:P.underlying t=some (.map k e))(hn:n<maxLen)(z:α)(y:Value):
  ∃w',(Instr.mapUpdate t (.map (some b)) (E.enc z) y).run P w=.ok () w'/\w'.kmap E b (n+1) (fun i=>if i=z then some y else f i)/\Chg (fun x=>x=b) w w':=by
 obtain⟨D,h1,h2⟩:=hown;obtain⟨w',hrun,h3,h4⟩:=h1.store E.keyed ht hn (val:=y) (d:=.held y) (ps:= []) (E.key z) rfl;exact⟨w',hrun,⟨_,h3,World.kmap.put h2 h1.isMap z y⟩,mapTurned_chg h4⟩
theorem Zc7[DecidableEq α](hg:o.guard=none)(m x v:Operand)(t:TypeId)(hop:o.op=Op.insert t m x v)(ht:P.underlying t=some (.map k e))
  (hm:a.eval m=.map (some b)) (hown:w.kmap E b n f) (hn:n<maxLen) (z:α) (y:Value) (hx:a.eval x=E.enc z) (hv:a.eval v=y)
  (hK:∀w',w'.kmap E b (n+1) (fun i=>if i=z then some y else f i)->Chg (fun x=>x=b) w w'->wpList P ops Q rest (a.put o.dst undef) w'):
  wpList P ops Q (o::rest) a w:=by
 refine wpList_plain hg fun K' hK'=> ?_
 obtain⟨w',hrun,r1,r2⟩:=hown.store ht hn z y;unfold Oper.wp;simp[execOp,hop,hm,hx,hv,hrun,Result.andThen];exact hK' _ _ (hK w' r1 r2)
end
end
end Go
namespace Go.Proofs.YtmemlkmnhcealaaGreat
open Value renaming int→O,pointer→Zs,slice→Zt
open IntKind renaming i64→Z
open Go.Proofs.Tryz renaming prog→Zw
open Go.RowKit
open Lib(hid)
variable {cs:Array Value} {row:Int} {L:List PL} {B b hm lp n o:Nat} {S:Nat->Prop} {P:Program} {α:Type} {k t:TypeId} {v va:Value} {w w' w1 w2:World}
abbrev PK:=Fin 16×Fin 4096
def toPL(k:PK):PL:=((k.1.val:Int),(k.2.val:Int))
theorem Ztr{a b:PK}(h:toPL a=toPL b):a=b:=by
 unfold toPL at h;simp only [Prod.mk.injEq]at h;exact Prod.ext (Fin.ext (by omega)) (Fin.ext (by omega))
theorem laidOutL:laidOutB Zw=true:=by kernel_rfl
theorem Zrp:WideMaps.KeyLaw Zw 318:=deep_law_laid laidOutL (m:=2) (by omega) (of_decide_eq_true (by kernel_rfl)) (by kernel_rfl) (by rw[Tryz.underlying318])
theorem Zhw:Tryz.prog.cellsOf 318=2:=by kernel_rfl
theorem Zrs:Tryz.prog.cellsOf 3=1:=by kernel_rfl
theorem Zlz(c0 c1:Value):(Value.agg #[c0,c1]).formed Zw 318=true:=by simp[Value.formed,Tryz.underlying318,Zhw]
theorem Zpc:Tryz.prog.keyType 318=true:=by kernel_rfl
theorem Zqx(a b:Int)(ha:(Lit.int .i64 a).wf=true)(hb:(Lit.int .i64 b).wf=true)(d:Nat):Tryz.prog.keyLits (d+2) 318 [.int .i64 a,.int .i64 b]=some [.int .i64 a,.int .i64 b]:=by
 simp[Program.keyLits,Tryz.underlying318,Zhw,Zrs,Tryz.underlying3,ha,hb]
theorem Zr1(a b:Int)(ha:(Lit.int .i64 a).wf=true)(hb:(Lit.int .i64 b).wf=true):keyOf Zw 318 (.agg #[.int .i64 a,.int .i64 b])=some (.string (keyBytes [.int .i64 a,.int .i64 b])):=by
 obtain⟨d,hd⟩:∃d,Tryz.prog.types.size+1=d+2:=⟨Tryz.prog.types.size-1,by
  have:1≤Tryz.prog.types.size:=of_decide_eq_true (by kernel_rfl)
  omega⟩
 unfold keyOf;rw[hd];simp[Tryz.underlying318,Zpc,Zlz,Value.cells,Zqx a b ha hb d]
theorem Zw2(k:PK):(Lit.int .i64 (toPL k).1).wf=true/\(Lit.int .i64 (toPL k).2).wf=true:=by
 have h1:=k.1.isLt;have h2:=k.2.isLt;unfold toPL Lit.wf;have e1:IntKind.i64.min= -9223372036854775808:=by decide
 have e2:IntKind.i64.max=9223372036854775807:=by decide
 simp[e1,e2];omega
def placeEnc:KeyEnc Zw 318 PK where
 enc k:=plv (toPL k)
 kl k:=.string (keyBytes [.int .i64 (toPL k).1,.int .i64 (toPL k).2])
 key k:=Zr1 _ _ (Zw2 k).1 (Zw2 k).2
 inj a b h:=by
  unfold plv at h;simp only [Value.agg.injEq,Array.mk.injEq,List.cons.injEq,Value.int.injEq,true_and,and_true]at h;exact Ztr (Prod.ext h.1 h.2)
 keyed:=Go.Maps.Keyed.of_law Zrp
open Go.RowKit
structure LiftAt (w:World) (B lp:Nat) (row:Int) (hm n:Nat) (g:PK->Option Sec) (dv:PK->Value) (va:Value) (A:List PK):Prop where
 box:At w lp #[O Z row,.map (some hm),va,Zt none 0 0] 316
 map:w.kmap placeEnc hm n (fun k=>(g k).map fun _=>dv k)
 dat:∀k s,g k=some s->w.ownsRow B 5 1 (dv k) 128 (ucells s)
 way:WayRow w B va (A.map toPL)
 has:∀k,k∈A↔(g k).isSome=true
 nd:A.Nodup
 few:n≤90000
 lfew:A.length≤n
 blo:B≤lp
 hlo:B≤hm
theorem Zcv{E:KeyEnc P k α}{f:α->Option Value}(h:w.kmap E b n f){g:Nat}(ha:At w g cs t):b≠g:=by
 rintro rfl;obtain⟨D,⟨es,clock,h1,-⟩,-⟩:=h;have:=h1.symm.trans ha;cases this
theorem Zch{E:KeyEnc P k α}{f:α->Option Value}(h:w.kmap E b n f){e:TypeId}{sz m:Nat}{xs:List Value}(hr:w.ownsRow B e sz v m xs):v.ownBlock≠some b:=by
 intro hv;obtain⟨D,⟨es,clock,h1,-⟩,-⟩:=h;rcases hr.2 with ⟨rfl,_⟩|⟨g',cap,cur,rfl,_,hg,_⟩
 ·cases hv
 ·simp only [Value.ownBlock,Zg]at hv
  subst hv;rw[h1]at hg;cases hg
theorem LiftAt.below{g:PK->Option Sec}{dv:PK->Value}{A:List PK}(h:LiftAt w B lp row hm n g dv va A)(hb:Below w.heap.size w w'):LiftAt w' B lp row hm n g dv va A:=
 ⟨h.box.below hb h.box.lt,h.map.below hb,fun k s hs=>Zaf (h.dat k s hs) hb (Za _),Zaf h.way hb (Za _),h.has,h.nd,h.few,h.lfew,h.blo,h.hlo⟩
theorem LiftAt.keep{g:PK->Option Sec}{dv:PK->Value}{A:List PK}(h:LiftAt w B lp row hm n g dv va A)(hc:Chg S w w')(hS:∀k,S k->k<B):LiftAt w' B lp row hm n g dv va A:=
 ⟨h.box.mod hc (fun e=>by have:=hS _ e;have:=h.blo;omega),h.map.mod hc (fun e=>by have:=hS _ e;have:=h.hlo;omega),fun k s hs=>Zad (h.dat k s hs) hc (fun g hg e=>by have:=hS _ e;have:=(h.dat k s hs).lt g hg;omega),Zad h.way hc (fun g hg e=>by have:=hS _ e;have:=h.way.lt g hg;omega),h.has,h.nd,h.few,h.lfew,h.blo,h.hlo⟩
theorem Ztt(w:World)(dv:PK->Value):Calls Zw 151 #[O Z 0] w fun e w'=>∃lp hm,e=.returned (.tuple #[Zs (some ⟨lp,0,none⟩),.int .u16 0])/\LiftAt w' w.heap.size lp 0 hm 0 (fun _=>none) dv (Zt none 0 0) []/\Below w.heap.size w w':=by
 have hmm:= @run_makeMap Zw;go_enter Tryz.func151,Tryz.ntmps151;go_wp2;go_ret2;refine⟨w.heap.size+1,w.heap.size,rfl,⟨?_,?_,fun k s h=>(by cases h),World.ownsRow_nil _ _ _ _,fun k=>(by simp),List.nodup_nil,by omega,Za _,by omega,by omega⟩,((Zb _ _).alloc (Za _) _).alloc (by rw[Zaa];omega) _⟩
 ·rw[<-Zaa w (.map #[] 0)]
  exact At.new _ _ _
 ·exact(World.kmap_made w placeEnc).below ((Zb _ _).alloc (Za _) _)
end Go.Proofs.YtmemlkmnhcealaaGreat
