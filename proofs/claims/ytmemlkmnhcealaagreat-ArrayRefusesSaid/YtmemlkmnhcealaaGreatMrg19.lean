
/- Several texts in one: PlnO, ResC, RwB, RwC, PlnOa. -/
import Derived.Test.YtmemlkmnhcealaaGreatMrg18
import Derived.Test.YtmemlkmnhcealaaGreatMrg17
set_option linter.unusedVariables false
set_option maxRecDepth 100000
set_option maxHeartbeats 4000000
namespace Go.Proofs.YtmemlkmnhcealaaGreat
open Value renaming int→O,pointer→Zs
open IntKind renaming i64→Z
open Ending renaming returned→Zu
open Go.Proofs.Tryz renaming prog→Zw
open Go.RowKit
open Lib(hid)
variable {A:Adr} {r:Int} {R:Int->Bool} {dv:Int->Int->Value} {inn:Int->Nat} {f:Int->Option Value} {κ:IntKind} {us:List (Int×List UInt8)} {L:List (Value×List OP)} {ps:List Pat} {B b gm n:Nat} {q:Pat->Bool} {P:Program} {k t:TypeId} {v vw:Value} {W W' W2 w w':World}
def PutSeg(w:World)(v:Value)(us:List (Int×List UInt8)):Prop:=
 ∃a c,v=.slice a us.length c/\us.length≤140737488355328/\(∀u∈us,u.2.length≤140737488355000)/\
  (us= []\/∃b o,a=some ⟨b,o,none⟩/\b<w.heap.size/\∀j (h:j<us.length),w.cell? ⟨b,o+j*2,none⟩=some (O Z us[j].1)/\∃x,w.cell? ⟨b,o+j*2+1,none⟩=some x/\Seg w x us[j].2)
theorem PutSeg.below(h:PutSeg w v us)(hb:Below w.heap.size w w'):PutSeg w' v us:=by
 obtain⟨a,c,h1,h2,h3,h4⟩:=h;refine⟨a,c,h1,h2,h3,?_⟩;rcases h4 with h4|⟨b,o,h5,h6,h7⟩
 ·exact .inl h4
 ·refine .inr ⟨b,o,h5,Zd h6 hb.size,fun j hj=> ?_⟩
  obtain⟨e1,x,e2,e3⟩:=h7 j hj;exact⟨(hb.cell (p:=⟨b,o+j*2,none⟩) h6).trans e1,x,(hb.cell (p:=⟨b,o+j*2+1,none⟩) h6).trans e2,e3.below hb⟩
theorem PutSeg.shape(h:PutSeg w v us):∃a c,v=.slice a us.length c:=by
 obtain⟨a,c,h1,_⟩:=h;exact⟨a,c,h1⟩
theorem PutSeg.few(h:PutSeg w v us):us.length≤140737488355328:=by
 obtain⟨a,c,h1,h2,_⟩:=h;exact h2
theorem PutSeg.full{a:Option Addr}{c:Nat}(h:PutSeg w (.slice a n c) us)(hl:0<us.length):
  ∃b o,a=some ⟨b,o,none⟩/\b<w.heap.size/\∀j (h:j<us.length),w.cell? ⟨b,o+j*2,none⟩=some (O Z us[j].1)/\∃x,w.cell? ⟨b,o+j*2+1,none⟩=some x/\Seg w x us[j].2:=by
 obtain⟨a',c',h1,h2,h3,h4⟩:=h;simp only [Zn]at h1;obtain⟨rfl,-,rfl⟩:=h1;rcases h4 with h4|h4
 ·subst h4;simp at hl
 ·exact h4
theorem Zlt(v:Value)(l:List UInt8)(w:World)(hl:l.length≤140737488355000)(hv:Seg w v l):
  Calls Zw 98 #[v] w fun e w'=>∃v',e=.returned v'/\w'.ownsRow w.heap.size 5 1 v' l.length (ucells l)/\Below w.heap.size w w':=by
 have hv0:=hv;obtain⟨a,cap,rfl,⟨h1,h2⟩,h3⟩:=hv;cases a with
 |some ad=>exact Zcw ad cap l w hl hv0
 |none=>
  obtain⟨h4,h5⟩:=h1 rfl;have hnil:l= []:=List.eq_nil_of_length_eq_zero h4;subst hnil;subst h5;have qN:∀W:World,(binOp .eql 36 (.slice none 0 0) (.slice none 0 0)).run Zw W=.ok (.bool true) W:=fun W=>Lib.run_eql_slice_nil W _ _ none _ _ 0 0 Tryz.underlying36
  clear hv0 h1 h2 h3 h4;simp only [List.length_nil]at*;go_enter Tryz.func98,Tryz.ntmps98;go_wp2;go_ret;exact⟨_,rfl,World.ownsRow_nil _ _ _ _,Zb _ _⟩
abbrev Tab:=Int->Int->Option (List UInt8)
def tabSet(G:Tab)(r m:Int)(d:List UInt8):Tab:=fun r' m'=>if r'=r/\m'=m then some d else G r' m'
structure SplitAt (W:World) (B gm n:Nat) (R:Int->Bool) (G:Tab) (inn:Int->Nat) (dv:Int->Int->Value):Prop where
 outer:W.vmap Zw 3 .i64 gm n (fun r=>if R r=true then some (.map (some (inn r)))else none)
 inner:∀r,R r=true->W.vmap Zw 3 .i64 (inn r) n (fun m=>(G r m).map fun _=>patVal m r (dv r m))
 iap:∀r r',R r=true->R r'=true->r≠r'->inn r≠inn r'
 ig:∀r,R r=true->inn r≠gm
 dat:∀r m d,G r m=some d->W.ownsRow B 5 1 (dv r m) d.length (ucells d)
 dap:∀r m d r' m' d',G r m=some d->G r' m'=some d'->¬(r=r'/\m=m')->∀g,(dv r m).ownBlock=some g->(dv r' m').ownBlock≠some g
 sub:∀r m d,G r m=some d->R r=true
 low:B≤gm
 lows:∀r,R r=true->B≤inn r
theorem Zes(h:W.vmap P k κ b n f){sz:Nat}{m:Nat}{xs:List Value}(hr:W.ownsRow B t sz v m xs):v.ownBlock≠some b:=by
 intro hv;obtain⟨D,⟨es,clock,h1,_⟩,_⟩:=h;rcases hr.2 with ⟨rfl,_⟩|⟨g,cap,cur,rfl,_,hg,_⟩
 ·cases hv
 ·simp only [Value.ownBlock,Zg]at hv
  subst hv;rw[h1]at hg;cases hg
theorem SplitAt.mod{S:Nat->Prop}{G:Tab}(h:SplitAt W B gm n R G inn dv)(hc:Chg S W W')(h1:¬S gm)(h2:∀r,R r=true->¬S (inn r))(h3:∀r m d,G r m=some d->∀g,(dv r m).ownBlock=some g->¬S g):SplitAt W' B gm n R G inn dv:=
 ⟨h.outer.mod hc h1,fun r hr=>(h.inner r hr).mod hc (h2 r hr),h.iap,h.ig,fun r m d hd=>Zad (h.dat r m d hd) hc (h3 r m d hd),h.dap,h.sub,h.low,h.lows⟩
theorem SplitAt.below{G:Tab}(h:SplitAt W B gm n R G inn dv)(hb:Below W.heap.size W W'):SplitAt W' B gm n R G inn dv:=
 h.mod (Zm hb (fun _=>False)) (fun h=>h) (fun _ _ h=>h) (fun _ _ _ _ _ _ h=>h)
theorem SplitAt.mono{G:Tab}(h:SplitAt W B gm n R G inn dv){n':Nat}(hn:n≤n'):SplitAt W B gm n' R G inn dv:=
 ⟨h.outer.mono hn,fun r hr=>(h.inner r hr).mono hn,h.iap,h.ig,h.dat,h.dap,h.sub,h.low,h.lows⟩
theorem Zbr{g:Nat}{cs:Array Value}(h:W.vmap P k κ b n f)(ha:At W g cs t):¬g=b:=fun e=>by
 subst e;obtain⟨D,⟨es,clock,h1,_⟩,_⟩:=h;unfold At at ha;rw[h1]at ha;cases ha
theorem SplitAt.start(W:World):SplitAt (W.alloc (.map #[] 0)) W.heap.size W.heap.size 0 (fun _=>false) (fun _ _=>none) (fun _=>0) (fun _ _=>undef):=by
 refine⟨?_,fun r hr=>(by cases hr),fun r r' hr=>(by cases hr),fun r hr=>(by cases hr),fun r m d hd=>(by cases hd),fun r m d r' m' d' hd=>(by cases hd),fun r m d hd=>(by cases hd),Za _,fun r hr=>(by cases hr)⟩;have:=World.vmap_made W Zw 3 .i64;simpa using this
theorem SplitAt.newRow{G:Tab}(h:SplitAt W B gm n R G inn dv)(hB:B≤W.heap.size)(hR:R r=false)
  (hv:W2.vmap Zw 3 .i64 gm (n+1) (fun i=>if i=r then some (.map (some W.heap.size))else if R i=true then some (.map (some (inn i)))else none)) (hc:Chg (fun x=>x=gm) (W.alloc (.map #[] 0)) W2):
  SplitAt W2 B gm (n+1) (fun i=>if i=r then true else R i) G (fun i=>if i=r then W.heap.size else inn i) dv:=by
 have hA:=h.below ((Zb W.heap.size W).alloc (Za _) (.map #[] 0));have hGr:∀m,G r m=none:=fun m=>by
  cases hg:G r m with
  |none=>rfl
  |some d=>have:=h.sub r m d hg;rw[hR]at this;cases this
 have hlt:∀i,R i=true->inn i<W.heap.size:=fun i hi=>(h.inner i hi).lt
 have hgl:=h.outer.lt;refine⟨?_,fun i hi=> ?_,fun i j hi hj hij=> ?_,fun i hi=> ?_,fun i m d hd=> ?_,h.dap,fun i m d hd=> ?_,h.low,fun i hi=> ?_⟩
 ·have e:(fun i=>if (if i=r then true else R i)=true then some (Value.map (some (if i=r then W.heap.size else inn i)))else none)=(fun i=>if i=r then some (.map (some W.heap.size))else if R i=true then some (.map (some (inn i)))else none):=by
   funext i;by_cases hi:i=r
   ·simp[hi]
   ·simp[hi]
  rw[e];exact hv
 ·by_cases hir:i=r
  ·subst hir
   rw[Zf rfl];have e:(fun m=>(G i m).map fun _=>patVal m i (dv i m))=fun _=>none:=by
    funext m;rw[hGr m];rfl
   rw[e];exact((World.vmap_made W Zw 3 .i64).mod hc (by omega)).mono (Nat.zero_le _)
  ·rw[Ze hir]at hi ⊢
   exact((hA.inner i hi).mod hc (h.ig i hi)).mono (Nat.le_succ _)
 ·by_cases hir:i=r
  ·subst hir
   rw[Zf rfl,Ze (Ne.symm hij)];rw[Ze (Ne.symm hij)]at hj;have:=hlt j hj;omega
  ·rw[Ze hir]at hi ⊢
   by_cases hjr:j=r
   ·rw[Zf hjr]
    have:=hlt i hi;omega
   ·rw[Ze hjr]at hj ⊢
    exact h.iap i j hi hj hij
 ·by_cases hir:i=r
  ·rw[Zf hir];omega
  ·rw[Ze hir]at hi ⊢
   exact h.ig i hi
 ·exact Zad (hA.dat i m d hd) hc (fun g hg e=>Zes hA.outer (hA.dat i m d hd) (e ▸ hg))
 ·by_cases hir:i=r
  ·rw[Zf hir]
  ·rw[Ze hir];exact h.sub i m d hd
 ·by_cases hir:i=r
  ·rw[Zf hir];exact hB
  ·rw[Ze hir]at hi ⊢
   exact h.lows i hi
theorem SplitAt.setPat{W1:World}{G:Tab}(h:SplitAt W B gm n R G inn dv)(hB:B≤W.heap.size){m:Int}{d:List UInt8}{u:Value}(hR:R r=true)
  (hb:Below W.heap.size W W1) (hu:W1.ownsRow W.heap.size 5 1 u d.length (ucells d))
  (hv:W2.vmap Zw 3 .i64 (inn r) (n+1) (fun i=>if i=m then some (patVal m r u)else (G r i).map fun _=>patVal i r (dv r i))) (hc:Chg (fun x=>x=inn r) W1 W2):
  SplitAt W2 B gm (n+1) R (tabSet G r m d) inn (fun r' m'=>if r'=r/\m'=m then u else dv r' m'):=by
 have hA:=h.below hb;have hold:∀r' m' d',G r' m'=some d'->∀g,(dv r' m').ownBlock=some g->g<W.heap.size:=fun r' m' d' hd g hg=>((h.dat r' m' d' hd).lt g hg).2
 refine⟨(hA.outer.mod hc (fun e=>h.ig r hR e.symm)).mono (Nat.le_succ _),fun i hi=> ?_,h.iap,h.ig,fun i j e he=> ?_,fun i j e i' j' e' he he' hne g hg=> ?_,fun i j e he=> ?_,h.low,h.lows⟩
 ·by_cases hir:i=r
  ·subst hir
   have e:(fun j=>(tabSet G i m d i j).map fun _=>patVal j i (if i=i/\j=m then u else dv i j))=(fun j=>if j=m then some (patVal m i u)else (G i j).map fun _=>patVal j i (dv i j)):=by
    funext j;unfold tabSet;by_cases hj:j=m
    ·simp[hj]
    ·simp[hj]
   rw[e];exact hv
  ·have e:(fun j=>(tabSet G r m d i j).map fun _=>patVal j i (if i=r/\j=m then u else dv i j))=(fun j=>(G i j).map fun _=>patVal j i (dv i j)):=by
    funext j;unfold tabSet;simp[hir]
   rw[e];exact((hA.inner i hi).mod hc (fun e=>h.iap i r hi hR hir e)).mono (Nat.le_succ _)
 ·show W2.ownsRow B _ 1 (if i=r/\j=m then u else dv i j) _ _
  unfold tabSet at he;by_cases hij:i=r/\j=m
  ·rw[Zf hij]at he ⊢
   simp only [Zg]at he;subst he;exact Zad (Zan hu hB) hc (fun g hg e=>Zes (hA.inner r hR) hu (e ▸ hg))
  ·rw[Ze hij]at he ⊢
   exact Zad (hA.dat i j e he) hc (fun g hg e'=>Zes (hA.inner r hR) (hA.dat i j e he) (e' ▸ hg))
 ·have hg':(if i=r/\j=m then u else dv i j).ownBlock=some g:=hg
  show(if i'=r/\j'=m then u else dv i' j').ownBlock≠some g
  unfold tabSet at he he';by_cases hij:i=r/\j=m
  ·rw[Zf hij]at hg'
   by_cases hij':i'=r/\j'=m
   ·exact absurd ⟨hij.1.trans hij'.1.symm,hij.2.trans hij'.2.symm⟩ hne
   ·rw[Ze hij']at he' ⊢
    intro e2;have h1:=(hu.lt g hg').1;have h2:=hold i' j' e' he' g e2;omega
  ·rw[Ze hij]at he hg'
   by_cases hij':i'=r/\j'=m
   ·rw[Zf hij']
    intro e2;have h1:=(hu.lt g e2).1;have h2:=hold i j e he g hg';omega
   ·rw[Ze hij']at he' ⊢
    exact h.dap i j e i' j' e' he he' hne g hg'
 ·unfold tabSet at he
  by_cases hij:i=r/\j=m
  ·rw[hij.1];exact hR
  ·rw[Ze hij]at he
   exact h.sub i j e he
end Go.Proofs.YtmemlkmnhcealaaGreat
namespace Go
open Value renaming int→O,pointer→Zs
open IntKind renaming i64→Z
open Ending renaming returned→Zu
open Lib(hid)
theorem Zai{fn:Func}{p:Tmp}{ty:TypeId}(h:fn.results= #[.cell p ty])(tmps:Array Value)(P:Program)(w:World):
  (results fn tmps).run P w=((asAddr (tmps.getD p undef)).run P w).andThen fun a w₁=>(loadVar ty a).run P w₁:=by
 simp only [results,h];simp[Sem.run_bind,Result.andThen]
theorem Zbw{fn:Func}{p u:Tmp}{ty:TypeId}(h:fn.results= #[.tmp u,.cell p ty])(tmps:Array Value)(P:Program)(w:World):
  (results fn tmps).run P w=
   ((asAddr (tmps.getD p undef)).run P w).andThen fun a w₁=>((loadVar ty a).run P w₁).andThen fun v w₂=>.ok (.tuple #[tmps.getD u undef,v]) w₂:=by
 simp only [results,h];simp[Sem.run_bind,Result.andThen]
end Go
namespace Go.Proofs.YtmemlkmnhcealaaGreat
open Value renaming int→O,pointer→Zs
open IntKind renaming i64→Z
open Ending renaming returned→Zu
open Go.Proofs.Tryz renaming prog→Zw
open Go.RowKit
open Lib(hid)
variable {A:Adr} {r:Int} {R:Int->Bool} {dv:Int->Int->Value} {inn:Int->Nat} {f:Int->Option Value} {κ:IntKind} {us:List (Int×List UInt8)} {L:List (Value×List OP)} {ps:List Pat} {B b gm n:Nat} {q:Pat->Bool} {P:Program} {k t:TypeId} {v vw:Value} {W W' W2 w w':World}
theorem Zdf(slot:Int)(w:World):Calls Zw 55 #[O Z slot,.int .u16 0] w fun e w'=>e=Zu (.agg #[O Z 0,.int .u16 0])/\Below w.heap.size w w':=by
 go_enter Tryz.func55,Tryz.ntmps55;go_wp2;have hn:=At.new w #[O Z 0,.int .u16 0] 76;have r0:=hn.cell 0;have r1:=hn.cell 1;(try simp only [Exit.inBlock,Exit.then]);refine bodyPost_ret (v:=.agg #[O Z 0,.int .u16 0]) ?_ rfl ⟨rfl,(Zb _ _).alloc (Za _) _⟩;rw[Zai rfl];go_simp;try rfl
theorem Zg7(slot:Int)(c:Nat)(w:World)(hc:c≠0):Calls Zw 55 #[O Z slot,.int .u16 c] w fun e w'=>e=Zu (.agg #[O Z slot,.int .u16 c])/\Below w.heap.size w w':=by
 have hne:((c:Int)==0)=false:=by simp;omega
 go_enter Tryz.func55,Tryz.ntmps55;go_wp2;have hn:=At.new w #[O Z slot,.int .u16 c] 76;have r0:=hn.cell 0;have r1:=hn.cell 1;(try simp only [Exit.inBlock,Exit.then]);refine bodyPost_ret (v:=.agg #[O Z slot,.int .u16 c]) ?_ rfl ⟨rfl,(Zb _ _).alloc (Za _) _⟩;rw[Zai rfl];go_simp;try rfl
theorem Zf1{R:RS}(m:Int)(w:World)(h:At w A.q (rwCells A R vw) 116):Calls Zw 112 #[Zs (some ⟨A.q,0,none⟩),O Z m] w fun e w'=>e=Zu (.bool (decide (0≤m)&&decide (m<(R.M:Int))))/\w'=w:=by
 have c1:w.cell? ⟨A.q,1,none⟩=some (O Z R.M):=h.cell 1;clear h;generalize R.M=M at*;by_cases h0:0≤m
 ·have e:(decide (0≤m)&&decide (m<(M:Int)))=decide (m<(M:Int)):=by simp[h0]
  rw[e];go_enter Tryz.func112,Tryz.ntmps112;go_wp2;go_ret;exact⟨rfl,rfl⟩
 ·have e:(decide (0≤m)&&decide (m<(M:Int)))=false:=by simp[h0]
  rw[e];go_enter Tryz.func112,Tryz.ntmps112;go_wp2;go_ret;exact⟨by first|rfl|(simp;done)|(simp;omega),rfl⟩
theorem Zbn{R:RS}(w:World)(h:At w A.q (rwCells A R vw) 116):Calls Zw 96 #[Zs (some ⟨A.q,0,none⟩),.int .u16 0] w fun e w'=>e=Zu (.agg #[O Z 0,.int .u16 0])/\Below w.heap.size w w':=by
 have c1:w.cell? ⟨A.q,1,none⟩=some (O Z R.M):=h.cell 1;have hlt:=h.lt;clear h;generalize R.M=M at*;go_enter Tryz.func96,Tryz.ntmps96
 go_wp2_with (first
  |(go_at_call 55;(with_reducible refine(Zdf _ _).mono ?_);rintro e w2 ⟨rfl,hb2⟩;have HB2:Hid (Below w.heap.size w w2):=((Zb w.heap.size w).alloc (Za _) _).trans (hb2.mono (by rw[Zaa];omega));have hn:=(At.new w #[O Z 0,.int .u16 0] 76).below hb2 (by rw[Zaa];omega);have k0:=hn.cell 0;have k1:=hn.cell 1;have f0:=hn.free 0;have f1:=hn.free 1;have HN:=hid hn;clear hn hb2))
 have hF:=(HN.out.set 0 (O Z 0)).set 1 (.int .u16 0);have r0:=hF.cell 0;have r1:=hF.cell 1;(try simp only [Exit.inBlock,Exit.then]);refine bodyPost_ret (v:=.agg #[O Z 0,.int .u16 0]) ?_ rfl ⟨rfl,(HB2.out.setCell (p:=⟨w.heap.size,0,none⟩) (Za _) _).setCell (p:=⟨w.heap.size,1,none⟩) (Za _) _⟩;rw[Zai rfl];go_simp;try rfl
theorem Zct{R:RS}(m r:Nat)(w:World)(h:At w A.q (rwCells A R vw) 116)(hf:At w A.fg (frCells R.fr R.M) 3)(hm:m<R.M):Calls Zw 114 #[Zs (some ⟨A.q,0,none⟩),O Z m,O Z r] w fun e w'=>e=Zu (.bool (R.dn m r))/\w'=w:=by
 have HI:Hid (Calls Zw 112 #[Zs (some ⟨A.q,0,none⟩),O Z m] w fun e w'=>e=Zu (.bool true)/\w'=w):=(Zf1 (m:Int) w h).mono (by
  rintro e w' ⟨rfl,rfl⟩
  refine⟨?_,rfl⟩
  have:(decide ((0:Int)≤m)&&decide ((m:Int)<(R.M:Int)))=true:=by simp;omega
  rw[this])
 have c6:w.cell? ⟨A.q,6,none⟩=some (.slice (some ⟨A.fg,0,none⟩) R.M R.M):=h.cell 6;have d:w.cell? ⟨A.fg,m,none⟩=some (O Z (R.fr m)):=(hf.cell m).trans (Zjc _ _ _ hm);have e:R.dn m r=(decide (R.fr m≠ -1)&&decide (R.fr m≤(r:Int))):=rfl;rw[e];clear h hf e;generalize R.M=M at*;generalize R.fr m=x at*;by_cases hx:x= -1
 focus
  have e:(decide (x≠ -1)&&decide (x≤(r:Int)))=false:=by simp[hx]
  rw[e]
  subst hx
 rotate_left
 focus
  have e:(decide (x≠ -1)&&decide (x≤(r:Int)))=decide (x≤(r:Int)):=by simp[hx]
  rw[e]
  have hb:(x != -1)=true:=by simpa using hx
 rotate_left
 all_goals
  go_enter Tryz.func114,Tryz.ntmps114
  go_wp2_with (first
   |(go_at_call 112;(with_reducible refine HI.out.mono ?_);rintro e w1 ⟨rfl,rfl⟩))
  go_ret
  exact⟨rfl,rfl⟩
open Go.RowKit
def waitAt(ps:List Pat)(m r:Int):Option Sec:=(ps.find? (fun p=>p.m==m&&p.r==r)).map (·.d)
def isAt(m r:Int)(p:Pat):Bool:=p.m==m&&p.r==r
def FirstAt(q:Pat->Bool)(ps:List Pat)(z:Int):Prop:=(∃k:Nat,z=k/\k<ps.length/\q (ps.getD k pat0)=true/\ps.find? q=some (ps.getD k pat0))\/(z= -1/\ps.find? q=none)
theorem Zv9(x y m r:Int)(u:Value)(g1 g2:Nat)(w:World)(h1:At w g1 #[O Z m] 3)(h2:At w g2 #[O Z r] 3):Calls Zw 155 #[.agg #[O Z x,O Z y,u],Zs (some ⟨g1,0,none⟩),Zs (some ⟨g2,0,none⟩)] w fun e w'=>e=Zu (.bool (x==m&&y==r))/\Below w.heap.size w w':=by
 have c0:w.cell? ⟨g1,0,none⟩=some (O Z m):=h1.cell 0;have c1:w.cell? ⟨g2,0,none⟩=some (O Z r):=h2.cell 0;have hlt1:=h1.lt;have hlt2:=h2.lt;clear h1 h2;by_cases hx:x=m
 ·subst hx
  have e:(x==x&&y==r)=(y==r):=by simp
  rw[e];go_enter Tryz.func155,Tryz.ntmps155;go_wp2;go_ret;exact⟨rfl,(Zb _ _).alloc (Za _) _⟩
 ·have hb:(x==m)=false:=beq_eq_false_iff_ne.2 hx
  have e:(x==m&&y==r)=false:=by rw[hb];rfl
  rw[e];go_enter Tryz.func155,Tryz.ntmps155;go_wp2;go_ret;exact⟨rfl,(Zb _ _).alloc (Za _) _⟩
theorem Ziy{k:Nat}(hk:k<ps.length)(h:(ps.take k).find? q=none)(hq:q ps[k]=false):(ps.take (k+1)).find? q=none:=by
 rw[List.find?_eq_none]at h ⊢;intro x hx;rw[List.take_succ_eq_append_getElem hk]at hx;rcases List.mem_append.1 hx with hx|hx
 ·exact h x hx
 ·simp only [List.mem_singleton]at hx
  subst hx;rw[hq];simp
theorem Zv3{k:Nat}(hk:k<ps.length)(h:(ps.take k).find? q=none)(hq:q ps[k]=true):ps.find? q=some ps[k]:=by
 have e:ps=ps.take k++(ps[k]::ps.drop (k+1)):=by rw[List.getElem_cons_drop,List.take_append_drop]
 have e2:=congrArg (List.find? q) e;rw[List.find?_append,h]at e2;rw[e2,List.find?_cons_of_pos hq];rfl
theorem Zpn(v:Value)(ps:List Pat)(m r:Int)(g1 g2:Nat)(w:World)(h:PSeg w v ps)(h1:At w g1 #[O Z m] 3)(h2:At w g2 #[O Z r] 3):
  Calls Zw 154 #[v,.func (.func 155) #[] #[Zs (some ⟨g1,0,none⟩),Zs (some ⟨g2,0,none⟩)]] w fun e w'=>Below w.heap.size w w'/\∃z:Int,e=Zu (O Z z)/\FirstAt (isAt m r) ps z:=by
 obtain⟨a,c,rfl⟩:=h.shape;have hn:=h.few;have H1:=hid h1;have H2:=hid h2;have H:=hid h;clear h h1 h2;go_enter Tryz.func154,Tryz.ntmps154;go_wp2;go_loopw [8] (fun q wr=>∃k:Nat,k≤ps.length/\q=O Z k/\(ps.take k).find? (isAt m r)=none/\Below w.heap.size w wr) (fun q _=>ps.length-(intOf q).toNat);case atStart=>exact⟨0,by omega,rfl,by simp,Zb _ _⟩
 case round=>
  obtain⟨k,hk,rfl,hz,hbw⟩:=hrel;have HZ:=hid hz;clear hz;by_cases hkn:k<ps.length
  ·obtain⟨b,o,rfl,hlt,hx⟩:=PSeg.full (H.out.below hbw) (by omega)
   obtain⟨c0,c1,u,c2,hu⟩:=hx k hkn;obtain⟨ua,uc,rfl⟩:=hu.shape;have K1:Hid (k+1≤ps.length):=hkn;have HC:=hid (Zv9 ps[k].m ps[k].r m r (.slice ua ps[k].d.length uc) g1 g2 wr (H1.out.below hbw H1.out.lt) (H2.out.below hbw H2.out.lt));clear hx hu;cases hq:(ps[k].m==m&&ps[k].r==r)
   ·rw[hq]at HC
    have HY:=hid (Ziy (q:=isAt m r) hkn HZ.out hq);clear hq;generalize ps[k].d.length=n at*;generalize ps[k].m=x at*;generalize ps[k].r=y at*;go_wp2_with (go_at_call 155;(with_reducible refine HC.out.mono ?_);rintro e w2 ⟨rfl,hb2⟩);exact⟨⟨k+1,K1.out,by go_num,HY.out,Zac hbw hb2⟩,by simp[intOf];omega⟩
   ·rw[hq]at HC
    have HY:Hid (FirstAt (isAt m r) ps k):=by
     have e:ps.getD k pat0=ps[k]:=Zbx ps k hkn;exact .inl ⟨k,rfl,hkn,by rw[e];exact hq,by rw[e];exact Zv3 hkn HZ.out hq⟩
    clear hq;generalize ps[k].d.length=n at*;generalize ps[k].m=x at*;generalize ps[k].r=y at*;go_wp2_with (go_at_call 155;(with_reducible refine HC.out.mono ?_);rintro e w2 ⟨rfl,hb2⟩);go_ret;exact⟨Zac hbw hb2,_,rfl,HY.out⟩
  ·obtain rfl:k=ps.length:=by omega
   go_wp2;go_ret;refine⟨hbw,_,rfl,.inr ⟨rfl,?_⟩⟩;have:=HZ.out;rwa [List.take_length]at this
def WaitPost(w:World)(o:Option Sec)(e:Ending)(w':World):Prop:=
 (o=none/\e=Zu (.tuple #[.slice none 0 0,.bool false])/\Below w.heap.size w w')\/∃d v,o=some d/\e=Zu (.tuple #[v,.bool true])/\w'.ownsRow w.heap.size 5 1 v 128 (ucells d)/\Below w.heap.size w w'
theorem Zc8{T:Nat->Nat}{R:RS}{lg:Option Nat}{X:List OP}(h:RwIn w T A R lg vw X)(hX:X.length≤100000)(m r:Int):
  Calls Zw 113 #[Zs (some ⟨A.q,0,none⟩),O Z m,O Z r] w (WaitPost w (waitAt R.wait m r)):=by
 have hb0:Below w.heap.size w ((w.alloc (.cells #[O Z m] 3)).alloc (.cells #[O Z r] 3)):=((Zb _ _).alloc (Za _) _).alloc (by rw[Zaa];omega) _;have e1:(w.alloc (.cells #[O Z m] 3)).heap.size=w.heap.size+1:=Zaa _ _;have h1:At ((w.alloc (.cells #[O Z m] 3)).alloc (.cells #[O Z r] 3)) w.heap.size #[O Z m] 3:=(At.new _ _ _).alloc _;have h2:At ((w.alloc (.cells #[O Z m] 3)).alloc (.cells #[O Z r] 3)) (w.heap.size+1) #[O Z r] 3:=by rw[<-e1];exact At.new _ _ _
 have hq:=h.rw.below hb0 h.rw.lt;have hps:=h.wt.pseg (by omega);rw[h.wtM]at hps;have hlen:∀p∈R.wait,p.d.length=128:=fun p hp=>by
  rw[<-h.wtM]at hp;obtain⟨x,hx,rfl⟩:=List.mem_map.1 hp;exact h.wt.len x hx
 have hfew:R.wait.length≤100000:=by rw[<-h.wtM,Zp];exact hX
 have HI:=hid (Zpn vw R.wait m r w.heap.size (w.heap.size+1) _ (hps.below hb0) h1 h2);have c5:((w.alloc (.cells #[O Z m] 3)).alloc (.cells #[O Z r] 3)).cell? ⟨A.q,7,none⟩=some vw:=hq.cell 7;have HW:=hid hps;have HQ:=hid h.rw;have HB0:=hid hb0;have HLEN:=hid hlen;obtain⟨va,vc,hv⟩:=hps.shape;subst hv;have hwa:waitAt R.wait m r=(R.wait.find? (isAt m r)).map (·.d):=rfl;rw[hwa];clear h hb0 h1 h2 hq hps hlen hwa;generalize R.wait=ps at*;cases hfd:ps.find? (isAt m r)with
 |none=>
  have HI2:Hid (Calls Zw 154 #[.slice va ps.length vc,.func (.func 155) #[] #[Zs (some ⟨w.heap.size,0,none⟩),Zs (some ⟨w.heap.size+1,0,none⟩)]] ((w.alloc (.cells #[O Z m] 3)).alloc (.cells #[O Z r] 3)) fun e w'=>e=Zu (O Z (-1))/\Below w.heap.size w w'):=HI.out.mono (by
   rintro e w' ⟨hb,z,rfl,hz⟩
   refine⟨?_,HB0.out.trans (hb.mono HB0.out.size)⟩
   rcases hz with ⟨k,-,-,-,hk⟩|⟨rfl,-⟩
   ·rw[hfd]at hk;cases hk
   ·rfl)
  clear HI HQ HW HLEN hfd;go_enter Tryz.func113,Tryz.ntmps113
  go_wp2_with (first
   |(go_at_call 154;(with_reducible refine HI2.out.mono ?_);rintro e w2 ⟨rfl,hb2⟩;have HB2:=hid hb2;clear hb2 c5))
  go_ret2;exact .inl ⟨rfl,rfl,HB2.out⟩
 |some p=>
  have HI2:Hid (Calls Zw 154 #[.slice va ps.length vc,.func (.func 155) #[] #[Zs (some ⟨w.heap.size,0,none⟩),Zs (some ⟨w.heap.size+1,0,none⟩)]] ((w.alloc (.cells #[O Z m] 3)).alloc (.cells #[O Z r] 3)) fun e w'=>∃k:Nat,e=Zu (O Z k)/\k<ps.length/\ps.getD k pat0=p/\Below w.heap.size w w'):=HI.out.mono (by
   rintro e w' ⟨hb,z,rfl,hz⟩
   rcases hz with ⟨k,rfl,hk,-,hkp⟩|⟨rfl,hk⟩
   ·rw[hfd]at hkp
    simp only [Zg]at hkp
    exact⟨k,rfl,hk,hkp.symm,HB0.out.trans (hb.mono HB0.out.size)⟩
   ·rw[hfd]at hk;cases hk)
  have HPD:Hid (p.d.length=128):=HLEN.out p (List.mem_of_find?_eq_some hfd);have hcl:Hid (∀u W,Seg W u p.d->Calls Zw 98 #[u] W fun e w'=>∃v',e=.returned v'/\w'.ownsRow W.heap.size 5 1 v' 128 (ucells p.d)/\Below W.heap.size W w'):=fun u W hu=>by
   have:=Zlt u p.d W (by rw[HPD.out];omega) hu;rw[HPD.out]at this;exact this
  clear HI HLEN hfd;go_enter Tryz.func113,Tryz.ntmps113
  go_wp2_with (first
   |(go_at_call 154;(with_reducible refine HI2.out.mono ?_);rintro e w2 ⟨k,rfl,hk,hkp,hb2⟩;have HB2:=hid hb2;have c7:w2.cell? ⟨A.q,7,none⟩=some (.slice va ps.length vc):=(HQ.out.below hb2 HQ.out.lt).cell 7;obtain⟨b,o,rfl,hlt,hx⟩:=PSeg.full (HW.out.below hb2) (by omega);obtain⟨-,-,u,d2,hu⟩:=hx k hk;rw[<-Zbx ps k hk,hkp]at hu;obtain⟨ua,uc,hue⟩:=hu.shape;rw[HPD.out]at hue;subst hue;have HC:=hid (hcl.out _ w2 hu);clear hb2 hx hu c5)
   |(go_at_call 98;(with_reducible refine HC.out.mono ?_);rintro e w3 ⟨v3,rfl,ho3,hb3⟩;have HO3:=hid ho3;have HB3:=hid hb3;clear ho3 hb3))
  go_ret2;exact .inr ⟨p.d,v3,rfl,rfl,Zan HO3.out HB2.out.size,HB2.out.trans (HB3.out.mono HB2.out.size)⟩
open Go.RowKit Go.Sort
def put0:Int×List UInt8:=(0,[])
def tabOf(M C:Nat)(us:List (Int×List UInt8)):Nat->Tab
 |0=>fun _ _=>none
 |k+1=>tabSet (tabOf M C us k) (rowOf M C (us.getD k put0).1.toNat:Nat) (membOf M C (us.getD k put0).1.toNat:Nat) (us.getD k put0).2
theorem Zsx{M C:Nat}{us:List (Int×List UInt8)}(h:∀u∈us,u.2.length=128):∀(k:Nat),k≤us.length->∀r m d,tabOf M C us k r m=some d->d.length=128
 |0,_,r,m,d,e=>by cases e
 |k+1,hk,r,m,d,e=>by
  have e':tabSet (tabOf M C us k) (rowOf M C (us.getD k put0).1.toNat:Nat) (membOf M C (us.getD k put0).1.toNat:Nat) (us.getD k put0).2 r m=some d:=e;unfold tabSet at e';split at e'
  ·simp only [Zg]at e'
   rw[<-e',Zi,Zh (by omega)];exact h _ (Zj _)
  ·exact Zsx h k (by omega) r m d e'
def rowX(G:Tab)(dv:Int->Int->Value)(r:Int)(ms:List Int):List OP:=ms.map fun m=>(⟨m,r,(G r m).getD []⟩,dv r m)
theorem Zok(G:Tab)(dv:Int->Int->Value)(r:Int)(ms:List Int):(rowX G dv r ms).length=ms.length:=by simp[rowX]
theorem Zs2(G:Tab)(dv:Int->Int->Value)(r:Int)(ms:List Int)(i:Nat)(h:i<ms.length):rowX G dv r (ms.take (i+1))=rowX G dv r (ms.take i)++ [(⟨ms.getD i 0,r,(G r (ms.getD i 0)).getD []⟩,dv r (ms.getD i 0))]:=by
 unfold rowX;rw[List.take_succ_eq_append_getElem h,List.map_append,Zi,Zh h];rfl
def RowIs(G:Tab)(dv:Int->Int->Value)(r:Int)(X:List OP):Prop:=
 ∃ms:List Int,ms.Pairwise (· < ·)/\(∀m,m∈ms↔((Lit.int .i64 m).wf=true/\(G r m).isSome=true))/\X=rowX G dv r ms
structure RowsAt (w:World) (B:Nat) (v:Value) (L:List (Value×List OP)):Prop where
 row:w.ownsRow B 114 1 v L.length (L.map (·.1))
 each:∀x∈L,ORow w B x.1 x.2
theorem RowsAt.nil(w:World)(B:Nat):RowsAt w B (.slice none 0 0) []:=⟨World.ownsRow_nil _ _ _ _,fun x hx=>by simp at hx⟩
theorem RowsAt.below(h:RowsAt w B v L)(hb:Below w.heap.size w w'):RowsAt w' B v L:=
 ⟨Zad h.row (Zm hb (fun _=>False)) (fun _ _ h=>h),fun x hx=>(h.each x hx).below hb⟩
theorem RowsAt.snoc{w5:World}{v':Value}{x:Value×List OP}(h:RowsAt w B v L)(hc:Chg (fun g=>v.ownBlock=some g) w w5)(hx:ORow w B x.1 x.2)
  (hrow:w5.ownsRow B 114 1 v' (L.length+1) (L.map (·.1)++ [x.1])):RowsAt w5 B v' (L++ [x]):=by
 have go:∀y:Value×List OP,ORow w B y.1 y.2->ORow w5 B y.1 y.2:=fun y hy=>
  hy.mod hc (fun g hg e=>Zbl hy.row h.row (by decide) e hg) (fun z hz g hg e=>Zbl (hy.dat z hz) h.row (by decide) e hg)
 refine⟨?_,fun y hy=> ?_⟩
 ·rw[Zo,List.length_singleton,List.map_append]
  exact hrow
 ·rcases List.mem_append.1 hy with hy|hy
  ·exact go y (h.each y hy)
  ·obtain rfl:y=x:=by simpa using hy
   exact go y hx
theorem Zqh:SliceOf Zw 111 114 1 24:=SliceOf.mk' (z:=.slice none 0 0) Tryz.underlying111 (by decide) (by kernel_rfl) rfl
theorem Zvn(W:World)(x:Value)(t:TypeId)(ad:Addr)(had:ad=⟨W.heap.size,0,none⟩):∀j u,[x][j]?=some u->(W.alloc (.cells #[x] t)).cell? (ad.add j)=some u:=by
 intro j u hj;subst had;rw[Go.WideShapes.add_plain,Nat.zero_add,(At.new W #[x] t).cell j,List.getElem?_toArray];exact hj
theorem Zln{sa:Option Addr}{sc:Nat}{rs:List Int}(h:W.ownsRow B 3 1 (.slice sa n sc) rs.length (rs.map (Value.int .i64))){j:Nat}(hj:j<rs.length):
  ∃g,sa=some ⟨g,0,none⟩/\g<W.heap.size/\∀i,i<rs.length->W.cell? ⟨g,i,none⟩=some (O Z (rs.getD i 0)):=by
 obtain⟨g,cap,hv,_,hlt,hc,_⟩:=Zb2 h (by omega);simp only [Zn]at hv;refine⟨g,hv.1,hlt,fun i hi=> ?_⟩;rw[hc i hi,List.getElem?_map,Zh hi,Zi,Zh hi];rfl
end Go.Proofs.YtmemlkmnhcealaaGreat
