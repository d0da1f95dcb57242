/- Several texts in one: RfC, RfD, RfE, RfF, RfG, RfH, RfI. -/
import Derived.Deep.CutRange
import Derived.Deep.CutBlock
import Derived.Test.YtljjjpakcbcioaaGreatMx
import Derived.Deep.RegionHeld3
set_option linter.unusedVariables false
set_option maxRecDepth 100000
set_option maxHeartbeats 4000000
namespace Go.Proofs.YtljjjpakcbcioaaGreat
open Value renaming int→O,pointer→Zs,slice→Zt
open IntKind renaming i64→Z
open Ending renaming returned→Zu
open Obj renaming cells→Zv
open Go.Proofs.Tryz renaming prog→Zw
open Go.RowKit
open Lib(hid)
variable {s s' s2:BaySt} {x:Dev} {l:List Nat} {c cap gs i k n p:Nat} {D:Nat->Nat->Prop} {ptr:Nat->Option Nat} {R S:Nat->Prop} {v:Value} {W W' w w' w1 w2:World}
def wearOf(p:Option Dev):Int:=match p with|none=> -1|some x=>if x.worn=true then x.left else -1
def rcell(ptr:Nat->Option Nat)(we:Nat->Int)(i:Nat):Value:=if i%6<3 then pcell (ptr (i/6*3+i%6))else O Z (we (i/6*3+i%6-3))
def rslots(ptr:Nat->Option Nat)(we:Nat->Int)(n:Nat):List Value:=(List.range (n*6)).map (rcell ptr we)
theorem Zba(ptr:Nat->Option Nat)(we:Nat->Int)(n:Nat):(rslots ptr we n).length=n*6:=by simp[rslots]
theorem Zce(ptr:Nat->Option Nat)(we:Nat->Int)(n i:Nat)(h:i<n*6):(rslots ptr we n)[i]?=some (rcell ptr we i):=by simp[rslots,h]
theorem Zd9(ptr:Nat->Option Nat)(we:Nat->Int)(k j:Nat)(hj:j<3):rcell ptr we (k*6+j)=pcell (ptr (k*3+j)):=by
 unfold rcell;rw[show(k*6+j)%6=j by omega,show(k*6+j)/6=k by omega,Zf hj]
theorem Zdm(ptr:Nat->Option Nat)(we:Nat->Int)(k j:Nat)(hj:j<3):rcell ptr we (k*6+3+j)=O Z (we (k*3+j)):=by
 unfold rcell;rw[show(k*6+3+j)%6=3+j by omega,show(k*6+3+j)/6=k by omega,Ze (by omega),show k*3+(3+j)-3=k*3+j by omega]
theorem Zil(ptr:Nat->Option Nat)(we:Nat->Int)(n k j:Nat)(hj:j<3)(z:Int):
  (rslots ptr we n).set (k*6+3+j) (O Z z)=rslots ptr (fun q=>if q=k*3+j then z else we q) n:=by
 apply List.ext_getElem?;intro i;by_cases hi:i<n*6
 ·rw[Zce _ _ _ _ hi,List.getElem?_set,Zba,Zce _ _ _ _ hi]
  by_cases he:k*6+3+j=i
  ·subst he
   rw[Zf rfl,Zf hi,Zdm _ _ _ _ hj,Zf rfl]
  ·rw[Ze he]
   unfold rcell;by_cases h3:i%6<3
   ·rw[Zf h3,Zf h3]
   ·rw[Ze h3,Ze h3]
    show _=some (Value.int .i64 (if i/6*3+i%6-3=k*3+j then z else we (i/6*3+i%6-3)))
    rw[Ze (by omega)]
 ·rw[List.getElem?_eq_none (by simp[Zba];omega),List.getElem?_eq_none (by simp[Zba];omega)]
theorem Zgj{ptr':Nat->Option Nat}{we we':Nat->Int}(h1:∀i,i<n*3->ptr i=ptr' i)(h2:∀i,i<n*3->we i=we' i):rslots ptr we n=rslots ptr' we' n:=by
 apply List.ext_getElem?;intro i;by_cases hi:i<n*6
 ·rw[Zce _ _ _ _ hi,Zce _ _ _ _ hi]
  unfold rcell;by_cases h3:i%6<3
  ·rw[Zf h3,Zf h3,h1 _ (by omega)]
  ·rw[Ze h3,Ze h3,h2 _ (by omega)]
 ·rw[List.getElem?_eq_none (by simp[Zba];omega),List.getElem?_eq_none (by simp[Zba];omega)]
theorem Zm9(ptr:Nat->Option Nat)(we:Nat->Int)(n:Nat):
  rslots ptr we (n+1)=rslots ptr we n++ [pcell (ptr (n*3)),pcell (ptr (n*3+1)),pcell (ptr (n*3+2)),O Z (we (n*3)),O Z (we (n*3+1)),O Z (we (n*3+2))]:=by
 unfold rslots;rw[show(n+1)*6=n*6+1+1+1+1+1+1 by omega];simp only [List.range_succ,List.map_append,List.map_cons,List.map_nil,List.append_assoc,List.cons_append,List.nil_append];have e0:=Zd9 ptr we n 0 (by omega);have e1:=Zd9 ptr we n 1 (by omega);have e2:=Zd9 ptr we n 2 (by omega);have e3:=Zdm ptr we n 0 (by omega);have e4:=Zdm ptr we n 1 (by omega);have e5:=Zdm ptr we n 2 (by omega);simp only [Nat.add_zero]at e0 e3;rw[show n*6+1+1=n*6+2 by omega,show n*6+2+1=n*6+3 by omega,show n*6+3+1+1=n*6+3+2 by omega,e0,e1,e2,e3,e4,e5]
structure RBayIn (W:World) (R:Nat->Prop) (c:Nat) (s:BaySt) (gs cap:Nat) (ptr:Nat->Option Nat) (D:Nat->Nat->Prop):Prop where
 bay:At W c #[Zt (some ⟨gs,0,none⟩) s.n cap,.bool s.dark,O Z s.trip,O Z (s.cnt 0),O Z (s.cnt 1),O Z (s.cnt 2)] 162
 slots:W.ownsRow 0 165 6 (Zt (some ⟨gs,0,none⟩) s.n cap) s.n (rslots ptr (fun i=>wearOf (s.pos i)) s.n)
 some':∀i,i<3*s.n->∀x,s.pos i=some x->∃p,ptr i=some p/\RDisk W (D i) p x.d
 wear:∀i,i<3*s.n->∀x,s.pos i=some x->0≤x.left/\x.left≤9223372036854775807
 none':∀i,i<3*s.n->s.pos i=none->ptr i=none
 apart:∀i j,i<3*s.n->j<3*s.n->i≠j->s.pos i≠none->s.pos j≠none->∀q,D i q->¬D j q
 inB:R c
 inS:R gs
 inD:∀i,i<3*s.n->s.pos i≠none->∀q,D i q->R q
 outB:∀i,i<3*s.n->s.pos i≠none->¬D i c
 outS:∀i,i<3*s.n->s.pos i≠none->¬D i gs
 ne:c≠gs
 lt:∀q,R q->q<W.heap.size
 few:s.n≤17
 cl:∀j,0≤s.cnt j
 trl: -1≤s.trip
 trh:s.trip≤9223372036854775807
 lit:s.dark=true->s.trip= -1
def RBayAt(W:World)(R:Nat->Prop)(c:Nat)(s:BaySt):Prop:=∃gs cap ptr D,RBayIn W R c s gs cap ptr D
theorem RBayIn.keep(h:RBayIn W R c s gs cap ptr D)(hc:Chg S W W')(hS:∀k,R k->¬S k):RBayIn W' R c s gs cap ptr D:=
 ⟨h.bay.mod hc (hS c h.inB),Zap h.slots hc (fun g hg=>by simp only [Value.ownBlock,Zg]at hg;exact hS g (hg ▸ h.inS)),
  fun i hi x hx=>by
   obtain⟨p,h1,h2⟩:=h.some' i hi x hx
   exact⟨p,h1,h2.keep hc (fun k hk=>hS k (h.inD i hi (by rw[hx];simp) k hk))⟩,
  h.wear,h.none',h.apart,h.inB,h.inS,h.inD,h.outB,h.outS,h.ne,fun q hq=>Zd (h.lt q hq) hc.size,h.few,h.cl,h.trl,h.trh,h.lit⟩
theorem RBayAt.keep(h:RBayAt W R c s)(hc:Chg S W W')(hS:∀k,R k->¬S k):RBayAt W' R c s:=by
 obtain⟨gs,cap,ptr,D,h⟩:=h;exact⟨gs,cap,ptr,D,h.keep hc hS⟩
theorem RBayAt.below(h:RBayAt W R c s)(hb:Below W.heap.size W W'):RBayAt W' R c s:=
 h.keep (Zm hb (fun _=>False)) (fun _ _ h=>h)
theorem RBayAt.lt(h:RBayAt W R c s):∀q,R q->q<W.heap.size:=by
 obtain⟨_,_,_,_,h⟩:=h;exact h.lt
def RBPost(w:World)(R:Nat->Prop)(c:Nat)(s':BaySt)(w':World):Prop:=
 ∃R',RBayAt w' R' c s'/\(∀q,R' q->R q\/w.heap.size≤q)/\Chg R w w'
theorem RBPost.trans{R1:Nat->Prop}(h1:∀q,R1 q->R q\/w.heap.size≤q)(hc:Chg R w w1)(h:RBPost w1 R1 c s2 w2):RBPost w R c s2 w2:=by
 obtain⟨R',k1,k2,k3⟩:=h;refine⟨R',k1,fun q hq=> ?_,Zaj hc k3 (fun q hq hs=>(h1 q hs).resolve_right (by omega))⟩;rcases k2 q hq with k2|k2
 ·exact h1 q k2
 ·exact .inr (Zc hc.size k2)
def RBTurned(w:World)(R:Nat->Prop)(c:Nat)(s':BaySt)(gs cap:Nat)(ptr:Nat->Option Nat)(w':World):Prop:=
 ∃R' D',RBayIn w' R' c s' gs cap ptr D'/\(∀q,R' q->R q\/w.heap.size≤q)/\Chg R w w'
theorem RBTurned.post(h:RBTurned w R c s' gs cap ptr w'):RBPost w R c s' w':=by
 obtain⟨R',D',h1,h2,h3⟩:=h;exact⟨R',⟨gs,cap,ptr,D',h1⟩,h2,h3⟩
theorem RBayIn.turn(h:RBayIn W R c s gs cap ptr D){y:Dev}(hi:i<3*s.n)(hx:s.pos i=some x)(hp:ptr i=some p)
  (hw:wearOf (some y)=wearOf (some x)) (hyl:0≤y.left) (hyh:y.left≤9223372036854775807) (hd:RDPost W (D i) p y.d W'):
  RBTurned W R c (s.laid i y) gs cap ptr W':=by
 obtain⟨D',k1,k2,k3⟩:=hd;have hne:s.pos i≠none:=by rw[hx];simp
 refine⟨fun q=>R q\/D' q,fun j=>if j=i then D' else D j,?_,?_,k3.mono fun q hq=>h.inD i hi hne q hq⟩
 ·have hpos:∀j,(s.laid i y).pos j=if j=i then some y else s.pos j:=fun j=>rfl
  have hn0:∀j,(s.laid i y).pos j≠none->s.pos j≠none:=fun j hj=>by
   rw[hpos]at hj;by_cases e:j=i
   ·rw[e];exact hne
   ·rwa [Ze e]at hj
  refine⟨h.bay.mod k3 (h.outB i hi hne),?_,?_,?_,?_,?_,.inl h.inB,.inl h.inS,?_,?_,?_,h.ne,?_,h.few,h.cl,h.trl,h.trh,h.lit⟩
  ·have e:rslots ptr (fun j=>wearOf ((s.laid i y).pos j)) s.n=rslots ptr (fun j=>wearOf (s.pos j)) s.n:=by
    congr 1;funext j;rw[hpos];by_cases e:j=i
    ·rw[Zf e,hw,e,hx]
    ·rw[Ze e]
   show W'.ownsRow 0 _ 6 _ s.n (rslots ptr (fun j=>wearOf ((s.laid i y).pos j)) s.n)
   rw[e];exact Zap h.slots k3 (fun g hg=>by simp only [Value.ownBlock,Zg]at hg;exact hg ▸ h.outS i hi hne)
  ·intro j hj z hz
   rw[hpos]at hz;by_cases e:j=i
   ·rw[Zf e]at hz
    obtain rfl:=Option.some.inj hz;exact⟨p,by rw[e];exact hp,by rw[Zf e];exact k1⟩
   ·rw[Ze e]at hz
    obtain⟨p',h1,h2⟩:=h.some' j hj z hz;rw[Ze e];exact⟨p',h1,h2.keep k3 (fun q hq hi'=>h.apart j i hj hi e (by rw[hz];simp) hne q hq hi')⟩
  ·intro j hj z hz
   rw[hpos]at hz;by_cases e:j=i
   ·rw[Zf e]at hz
    obtain rfl:=Option.some.inj hz;exact⟨hyl,hyh⟩
   ·rw[Ze e]at hz
    exact h.wear j hj z hz
  ·intro j hj hz
   rw[hpos]at hz;by_cases e:j=i
   ·rw[Zf e]at hz
    cases hz
   ·rw[Ze e]at hz
    exact h.none' j hj hz
  ·intro a b ha hb hab hna hnb q hqa hqb
   have ha':=hn0 a hna;have hb':=hn0 b hnb;by_cases ea:a=i
   ·have eb:b≠i:=by omega
    rw[Zf ea]at hqa;rw[Ze eb]at hqb;have hlt:=h.lt q (h.inD b hb hb' q hqb);exact h.apart i b hi hb (Ne.symm eb) hne hb' q ((k2 q hqa).resolve_right (by omega)) hqb
   ·rw[Ze ea]at hqa
    by_cases eb:b=i
    ·rw[Zf eb]at hqb
     have hlt:=h.lt q (h.inD a ha ha' q hqa);exact h.apart i a hi ha (Ne.symm ea) hne ha' q ((k2 q hqb).resolve_right (by omega)) hqa
    ·rw[Ze eb]at hqb
     exact h.apart a b ha hb hab ha' hb' q hqa hqb
  ·intro j hj hnj q hq
   by_cases e:j=i
   ·rw[Zf e]at hq;exact .inr hq
   ·rw[Ze e]at hq;exact .inl (h.inD j hj (hn0 j hnj) q hq)
  ·intro j hj hnj
   by_cases e:j=i
   ·rw[Zf e]
    intro hq;exact h.outB i hi hne ((k2 _ hq).resolve_right (by have:=h.lt c h.inB;omega))
   ·rw[Ze e];exact h.outB j hj (hn0 j hnj)
  ·intro j hj hnj
   by_cases e:j=i
   ·rw[Zf e]
    intro hq;exact h.outS i hi hne ((k2 _ hq).resolve_right (by have:=h.lt gs h.inS;omega))
   ·rw[Ze e];exact h.outS j hj (hn0 j hnj)
  ·intro q hq
   rcases hq with hq|hq
   ·exact Zd (h.lt q hq) k3.size
   ·exact k1.lt q hq
 ·intro q hq
  rcases hq with hq|hq
  ·exact .inl hq
  ·rcases k2 q hq with k2|k2
   ·exact .inl (h.inD i hi hne q k2)
   ·exact .inr k2
theorem RBayIn.cells(h:RBayIn W R c s gs cap ptr D)(hc:Chg (fun q=>q=c) W W')(dark:Bool)(trip:Int)(cnt:Nat->Int)
  (hb:At W' c #[Zt (some ⟨gs,0,none⟩) s.n cap,.bool dark,O Z trip,O Z (cnt 0),O Z (cnt 1),O Z (cnt 2)] 162) (hcl:∀j,0≤cnt j) (h1: -1≤trip) (h2:trip≤9223372036854775807) (h3:dark=true->trip= -1):
  RBayIn W' R c ⟨s.n,s.pos,dark,trip,cnt⟩ gs cap ptr D:=
 ⟨hb,Zap h.slots hc (fun g hg e=>by simp only [Value.ownBlock,Zg]at hg;exact h.ne (by rw[<-e,hg])),
  fun i hi x hx=>by
   obtain⟨p,h1,h2⟩:=h.some' i hi x hx
   exact⟨p,h1,h2.keep hc (fun k hk e=>h.outB i hi (by rw[hx];simp) (e ▸ hk))⟩,
  h.wear,h.none',h.apart,h.inB,h.inS,h.inD,h.outB,h.outS,h.ne,fun q hq=>Zd (h.lt q hq) hc.size,h.few,hcl,h1,h2,h3⟩
theorem Zte(s:BaySt)(i:Nat)(x y:Dev):(s.laid i x).laid i y=s.laid i y:=by
 unfold BaySt.laid;congr 1;funext q;by_cases h:q=i
 ·simp only [Zf h]
 ·simp only [Ze h]
theorem RBayIn.worn(h:RBayIn W R c s gs cap ptr D)(hk:k<s.n)(hx:s.pos (k*3)=some x)(wo:Bool)(le:Int)(hl:0≤le)(hh:le≤9223372036854775807)(z:Int)(hz:z=wearOf (some ⟨x.d,wo,le⟩)):
  RBayIn (W.setCell ⟨gs,k*6+3,none⟩ (O Z z)) R c (s.laid (k*3) ⟨x.d,wo,le⟩) gs cap ptr D/\Chg (fun q=>q=gs) W (W.setCell ⟨gs,k*6+3,none⟩ (O Z z)):=by
 have hc:Chg (fun q=>q=gs) W (W.setCell ⟨gs,k*6+3,none⟩ (O Z z)):=Zk (S:=fun q=>q=gs) (Zl _ _) ⟨gs,k*6+3,none⟩ (.inl rfl) _;refine⟨?_,hc⟩;have hpos:∀j,(s.laid (k*3) ⟨x.d,wo,le⟩).pos j=if j=k*3 then some ⟨x.d,wo,le⟩else s.pos j:=fun j=>rfl
 have hn:∀j,(s.laid (k*3) ⟨x.d,wo,le⟩).pos j≠none->s.pos j≠none:=fun j hj=>by
  rw[hpos]at hj;by_cases e:j=k*3
  ·rw[e,hx];simp
  ·rwa [Ze e]at hj
 refine⟨h.bay.mod hc h.ne,?_,?_,?_,?_,?_,h.inB,h.inS,?_,?_,?_,h.ne,fun q hq=>Zd (h.lt q hq) hc.size,h.few,h.cl,h.trl,h.trh,h.lit⟩
 ·have e:=(h.slots.stored (k*6+3) (O Z z)).1
  have e2:=Zil ptr (fun i=>wearOf (s.pos i)) s.n k 0 (by omega) z;simp only [Nat.add_zero]at e2;rw[e2]at e;have e3:(fun q=>if q=k*3 then z else wearOf (s.pos q))=fun i=>wearOf ((s.laid (k*3) ⟨x.d,wo,le⟩).pos i):=by
   funext q;rw[hpos];by_cases e:q=k*3
   ·rw[Zf e,Zf e,hz]
   ·rw[Ze e,Ze e]
  rw[e3]at e;exact e
 ·intro j hj y hy
  rw[hpos]at hy;by_cases e:j=k*3
  ·rw[Zf e]at hy
   obtain rfl:=Option.some.inj hy;obtain⟨p,h1,h2⟩:=h.some' j hj x (by rw[e];exact hx);exact⟨p,h1,h2.keep hc (fun q hq e'=>h.outS j hj (by rw[e,hx];simp) (e' ▸ hq))⟩
  ·rw[Ze e]at hy
   obtain⟨p,h1,h2⟩:=h.some' j hj y hy;exact⟨p,h1,h2.keep hc (fun q hq e'=>h.outS j hj (by rw[hy];simp) (e' ▸ hq))⟩
 ·intro j hj y hy
  rw[hpos]at hy;by_cases e:j=k*3
  ·rw[Zf e]at hy
   obtain rfl:=Option.some.inj hy;exact⟨hl,hh⟩
  ·rw[Ze e]at hy
   exact h.wear j hj y hy
 ·intro j hj hy
  rw[hpos]at hy;by_cases e:j=k*3
  ·rw[Zf e]at hy;cases hy
  ·rw[Ze e]at hy;exact h.none' j hj hy
 ·exact fun a b ha hb hab hna hnb=>h.apart a b ha hb hab (hn a hna) (hn b hnb)
 ·exact fun j hj hnj=>h.inD j hj (hn j hnj)
 ·exact fun j hj hnj=>h.outB j hj (hn j hnj)
 ·exact fun j hj hnj=>h.outS j hj (hn j hnj)
open Go.RowKit
theorem RBayIn.cellP(h:RBayIn W R c s gs cap ptr D)(hk:k<s.n)(j:Nat)(hj:j<3):W.cell? ⟨gs,k*6+j,none⟩=some (pcell (ptr (k*3+j))):=by
 rw[h.slots.cellAt (k*6+j) (by omega),Zce _ _ _ _ (by omega),Zd9 _ _ _ _ hj]
theorem RBayIn.cellW(h:RBayIn W R c s gs cap ptr D)(hk:k<s.n)(j:Nat)(hj:j<3):W.cell? ⟨gs,k*6+3+j,none⟩=some (O Z (wearOf (s.pos (k*3+j)))):=by
 rw[h.slots.cellAt (k*6+3+j) (by omega),Zce _ _ _ _ (by omega),Zdm _ _ _ _ hj]
theorem RBayIn.tripTo(h:RBayIn W R c s gs cap ptr D)(t:Int)(h1: -1≤t)(h2:t≤9223372036854775807)(h3:s.dark=true->t= -1):
  RBayIn (W.setCell ⟨c,2,none⟩ (O Z t)) R c {s with trip:=t} gs cap ptr D/\Chg (fun q=>q=c) W (W.setCell ⟨c,2,none⟩ (O Z t)):=by
 have hc:Chg (fun q=>q=c) W (W.setCell ⟨c,2,none⟩ (O Z t)):=Zk (S:=fun q=>q=c) (Zl _ _) ⟨c,2,none⟩ (.inl rfl) _;exact⟨h.cells hc s.dark t s.cnt (h.bay.set 2 (O Z t)) h.cl h1 h2 h3,hc⟩
theorem RBayIn.darkTo(h:RBayIn W R c s gs cap ptr D)(v:Bool):
  RBayIn ((W.setCell ⟨c,1,none⟩ (.bool v)).setCell ⟨c,2,none⟩ (O Z (-1))) R c {s with dark:=v,trip:= -1} gs cap ptr D/\Chg (fun q=>q=c) W ((W.setCell ⟨c,1,none⟩ (.bool v)).setCell ⟨c,2,none⟩ (O Z (-1))):=by
 have hc:Chg (fun q=>q=c) W ((W.setCell ⟨c,1,none⟩ (.bool v)).setCell ⟨c,2,none⟩ (O Z (-1))):=(Zk (S:=fun q=>q=c) (Zl _ _) ⟨c,1,none⟩ (.inl rfl) _).setCell ⟨c,2,none⟩ (.inl rfl) _;exact⟨h.cells hc v (-1) s.cnt ((h.bay.set 1 (.bool v)).set 2 (O Z (-1))) h.cl (by omega) (by omega) (fun _=>rfl),hc⟩
theorem RBayIn.counted(h:RBayIn W R c s gs cap ptr D)(j:Nat)(hj:j<3):
  RBayIn (W.setCell ⟨c,3+j,none⟩ (O Z (s.cnt j+1))) R c {s with cnt:=fun q=>if q=j then s.cnt j+1 else s.cnt q} gs cap ptr D/\Chg (fun q=>q=c) W (W.setCell ⟨c,3+j,none⟩ (O Z (s.cnt j+1))):=by
 have hc:Chg (fun q=>q=c) W (W.setCell ⟨c,3+j,none⟩ (O Z (s.cnt j+1))):=Zk (S:=fun q=>q=c) (Zl _ _) ⟨c,3+j,none⟩ (.inl rfl) _;have hcl:∀q,0≤(if q=j then s.cnt j+1 else s.cnt q):=fun q=>by
  split
  ·have:=h.cl j;omega
  ·exact h.cl q
 refine⟨h.cells hc s.dark s.trip (fun q=>if q=j then s.cnt j+1 else s.cnt q) ?_ hcl h.trl h.trh h.lit,hc⟩;have h2:=h.bay.set (3+j) (O Z (s.cnt j+1));rcases (by omega:j=0\/j=1\/j=2)with rfl|rfl|rfl
 ·simpa using h2
 ·simpa using h2
 ·simpa using h2
theorem Ztd(h:s.pos i=some x):s.laid i x=s:=by
 unfold BaySt.laid;have:(fun q=>if q=i then some x else s.pos q)=s.pos:=by
  funext q;by_cases e:q=i
  ·rw[Zf e,e,h]
  ·rw[Ze e]
 rw[this]
theorem RBTurned.next(hc:Chg R w w1)(h:RBTurned w1 R c s2 gs cap ptr w2):RBTurned w R c s2 gs cap ptr w2:=by
 obtain⟨R',D',h1,h2,h3⟩:=h;exact⟨R',D',h1,fun q hq=>(h2 q hq).imp id (fun h=>Zc hc.size h),hc.trans h3⟩
theorem RBTurned.of(h:RBayIn w' R c s' gs cap ptr D)(hc:Chg R w w'):RBTurned w R c s' gs cap ptr w':=⟨R,D,h,fun q hq=>.inl hq,hc⟩
theorem Zvr(h:RBayIn w R c s gs cap ptr D)(k:Nat)(hk:k<s.n):
  Calls Zw 172 #[Zs (some ⟨c,0,none⟩),O Z k] w fun e w'=>e=Zu (.bool true)/\w'=w:=by
 have c0:w.cell? ⟨c,0,none⟩=some (Zt (some ⟨gs,0,none⟩) s.n cap):=h.bay.cell 0;have hf:=h.few;clear h;go_enter Tryz.func172,Tryz.ntmps172;go_wp2;go_ret;exact⟨rfl,rfl⟩
theorem Zql(h:RBayIn w R c s gs cap ptr D)(k:Int)(hk:¬(0≤k/\k<(s.n:Int))):
  Calls Zw 172 #[Zs (some ⟨c,0,none⟩),O Z k] w fun e w'=>e=Zu (.bool false)/\w'=w:=by
 have c0:w.cell? ⟨c,0,none⟩=some (Zt (some ⟨gs,0,none⟩) s.n cap):=h.bay.cell 0;have hf:=h.few;clear h;by_cases h0:0≤k
 ·have hn:¬k<(s.n:Int):=by omega
  clear hk;go_enter Tryz.func172,Tryz.ntmps172;go_wp2;go_ret;exact⟨rfl,rfl⟩
 ·clear hk
  go_enter Tryz.func172,Tryz.ntmps172;go_wp2;go_ret;exact⟨rfl,rfl⟩
def startCode:Nat ⊕ Dev->Nat
 | .inl c=>c
 | .inr _=>0
theorem Zhv(h:RBayIn w R c s gs cap ptr D)(j:Nat)(hj:j<3)(k:Int)(hcnt:s.cnt j≤1000000000000):
  Calls Zw 138 #[Zs (some ⟨c,0,none⟩),O Z k,O Z ((j+1:Nat):Int)] w fun e w'=>
   e=Zu (.int .u16 ((startCode (s.start j k).2:Nat):Int))/\RBTurned w R c (s.start j k).1 gs cap ptr w':=by
 have HB:=hid h;have c1:w.cell? ⟨c,1,none⟩=some (.bool s.dark):=h.bay.cell 1;have c2:w.cell? ⟨c,2,none⟩=some (O Z s.trip):=h.bay.cell 2;have f1:=h.bay.free 1;have f2:=h.bay.free 2;have hbay:Chg (fun q=>q=c) w w:=Zl _ _;by_cases hk:0≤k/\k<(s.n:Int)
 ·obtain⟨k,rfl⟩:∃q:Nat,k=q:=⟨k.toNat,by omega⟩
  have hkn:k<s.n:=by omega
  have HIS:=hid (Zvr h k hkn);have trl:=h.trl;have trh:=h.trh;have hst:s.start j (k:Int)=if s.trip=0 then ({s with dark:=true,trip:= -1},.inl 50)else if s.dark=true then (s,.inl 50)
    else match s.pos (k*3)with
    |none=>({s with trip:=(if 0<s.trip then s.trip-1 else s.trip),cnt:=fun q=>if q=j then s.cnt j+1 else s.cnt q},.inl 51)
    |some x=>(s.begun j (k*3) x.use,.inr x.use):=by
   unfold BaySt.start;rw[Ze (by simpa using hk),Int.toNat_natCast];cases s.pos (k*3)<;>rfl
  rw[hst];clear hst hk;by_cases hd:s.dark=true
  ·have ht:¬s.trip=0:=by rw[h.lit hd];omega
   rw[Ze ht,Zf hd];rw[hd]at c1;clear h hcnt;go_enter Tryz.func138,Tryz.ntmps138
   go_wp2_with (first
    |(go_at_call 172;(with_reducible refine HIS.out.mono ?_);rintro e w1 ⟨rfl,hw⟩;obtain rfl:w=w1:=hw.symm))
   go_ret;exact⟨rfl,.of HB.out (Zl _ _)⟩
  ·have hd':s.dark=false:=by simpa using hd
   rw[hd']at c1;by_cases ht:s.trip=0
   ·rw[Zf ht]
    have HT:=HB.out.darkTo true;rw[ht]at c2;clear h hcnt;go_enter Tryz.func138,Tryz.ntmps138
    go_wp2_with (first
     |(go_at_call 172;(with_reducible refine HIS.out.mono ?_);rintro e w1 ⟨rfl,hw⟩;obtain rfl:w=w1:=hw.symm))
    go_ret;exact⟨rfl,.of HT.1 (HT.2.mono fun q hq=>hq ▸ HB.out.inB)⟩
   ·rw[Ze ht,Ze hd]
    obtain⟨A,hA⟩:∃A:BaySt×(Nat ⊕ Dev),A=match s.pos (k*3)with
     |none=>({s with trip:=(if 0<s.trip then s.trip-1 else s.trip),cnt:=fun q=>if q=j then s.cnt j+1 else s.cnt q},.inl 51)
     |some x=>(s.begun j (k*3) x.use,.inr x.use):=⟨_,rfl⟩
    have HAA:=hid hA
    rw[show(match s.pos (k*3)with
     |none=>({s with trip:=(if 0<s.trip then s.trip-1 else s.trip),cnt:=fun q=>if q=j then s.cnt j+1 else s.cnt q},.inl 51)
     |some x=>(s.begun j (k*3) x.use,.inr x.use):BaySt×(Nat ⊕ Dev))=A from hA.symm]
    clear hA;obtain⟨s1,hs1⟩:∃s1:BaySt,s1={s with trip:=(if 0<s.trip then s.trip-1 else s.trip)}:=⟨_,rfl⟩;have HS1:=hid hs1;have HC1:Hid (s1.cnt=s.cnt):=by rw[hs1];rfl
    clear h hs1;go_enter Tryz.func138,Tryz.ntmps138
    go_upto_if 31 with (first
     |(go_at_call 172;(with_reducible refine HIS.out.mono ?_);rintro e w1 ⟨rfl,hw⟩;obtain rfl:w=w1:=hw.symm))
    go_cut []from 12 (fun wx=>RBayIn wx R c s1 gs cap ptr D/\Chg (fun q=>q=c) w wx);case first=>
     by_cases hp:0<s.trip
     ·go_wp2
      go_meet;obtain⟨q1,q2⟩:=HB.out.tripTo (s.trip-1) (by omega) (by omega) (fun e=>absurd e hd);refine⟨?_,q2⟩;rw[HS1.out,Zf hp];exact q1
     ·go_wp2
      go_meet;refine⟨?_,Zl _ _⟩;rw[HS1.out,Ze (by omega)];exact HB.out
    case rest=>
     obtain⟨hb1,hch1⟩:=hcut;have HB1:=hid hb1;have HCH1:=hid hch1;clear hb1 hch1 c1 c2 f1 f2 hbay;obtain⟨s2,hs2⟩:∃s2:BaySt,s2={s1 with cnt:=fun q=>if q=j then s1.cnt j+1 else s1.cnt q}:=⟨_,rfl⟩;have HS2:=hid hs2;clear hs2;go_upto_block 0 with fail
     go_cut []from 12 (fun wx=>RBayIn wx R c s2 gs cap ptr D/\Chg (fun q=>q=c) wc wx);case first=>
      have hcn:s1.cnt j≤1000000000000:=by rw[HC1.out];exact hcnt
      have hcl:=HB1.out.cl j;have HQ:=hid (HB1.out.counted j hj);rw[<-HS2.out]at HQ;rcases (by omega:j=0\/j=1\/j=2)with rfl|rfl|rfl
      ·have c3:wc.cell? ⟨c,3,none⟩=some (O Z (s1.cnt 0)):=HB1.out.bay.cell 3
       have f3:=HB1.out.bay.free 3;generalize s1.cnt 0=z at*;go_wp2;go_meet;exact HQ.out
      ·have c3:wc.cell? ⟨c,4,none⟩=some (O Z (s1.cnt 1)):=HB1.out.bay.cell 4
       have f3:=HB1.out.bay.free 4;generalize s1.cnt 1=z at*;go_wp2;go_meet;exact HQ.out
      ·have c3:wc.cell? ⟨c,5,none⟩=some (O Z (s1.cnt 2)):=HB1.out.bay.cell 5
       have f3:=HB1.out.bay.free 5;generalize s1.cnt 2=z at*;go_wp2;go_meet;exact HQ.out
     case rest=>
      obtain⟨hb2,hch2⟩:=hcut;have HB2:=hid hb2;have HCH2:=hid (HCH1.out.trans hch2);clear hb2 hch2;have hn2:s2.n=s.n:=by rw[HS2.out,HS1.out]
      have hp2:s2.pos=s.pos:=by rw[HS2.out,HS1.out]
      have hkn2:k<s2.n:=by omega
      have c0:wc.cell? ⟨c,0,none⟩=some (Zt (some ⟨gs,0,none⟩) s2.n cap):=HB2.out.bay.cell 0;have p0:wc.cell? ⟨gs,k*6,none⟩=some (pcell (ptr (k*3))):=HB2.out.cellP hkn2 0 (by omega);have p3:wc.cell? ⟨gs,k*6+3,none⟩=some (O Z (wearOf (s2.pos (k*3)))):=HB2.out.cellW hkn2 0 (by omega);have p3f:=HB2.out.slots.frozenAt (k*6+3);rw[hn2]at c0;rw[hp2]at p3;have hfew:=HB.out.few;have hRc:Hid (Chg R w wc):=HCH2.out.mono fun q hq=>hq ▸ HB.out.inB
      have HN2:=hid hn2;have HP2:=hid hp2;clear hn2 hp2 hkn2;cases hx:s.pos (k*3)with
      |none=>
       rw[hx]at HAA;have hA1:=congrArg Prod.fst HAA.out;have hA2:A.2=.inl 51:=congrArg Prod.snd HAA.out;have hpn:=HB.out.none' (k*3) (by omega) hx;rw[hpn]at p0;unfold pcell at p0;rw[Option.map_none]at p0;have HA1:=hid hA1;have HA2:=hid hA2;clear hx hpn hA1 hA2;go_wp2;go_ret;refine⟨by rw[HA2.out];rfl,?_⟩;rw[HA1.out];have:=RBTurned.of HB2.out hRc.out;rw[HS2.out,HS1.out]at this;exact this
      |some x=>
       obtain⟨p,hp,hd0⟩:=HB2.out.some' (k*3) (by rw[HN2.out];omega) x (by rw[HP2.out];exact hx);have hx2:Hid (s2.pos (k*3)=some x):=by show _=_;rw[HP2.out];exact hx
       have hi2:Hid (k*3<3*s2.n):=by show _<_;rw[HN2.out];omega
       have HPP:=hid hp;have HD0:=hid hd0;obtain⟨wl,wh⟩:=HB.out.wear (k*3) (by omega) x hx;have hbeg:Hid (s.begun j (k*3) x.use=s2.laid (k*3) x.use):=by
        show _=_
        rw[HS2.out,HS1.out];rfl
       rw[hp]at p0;rw[hx]at p3;unfold pcell at p0;rw[Option.map_some]at p0;rw[hx]at HAA;have hA1:A.1=s.begun j (k*3) x.use:=congrArg Prod.fst HAA.out;have hA2:A.2=.inr x.use:=congrArg Prod.snd HAA.out;have HA1:=hid hA1;have HA2:=hid hA2;clear hA1 hA2;have HX:=hid hx;clear hp hd0 hx;cases hwo:x.worn with
       |false=>
        have e:wearOf (some x)= -1:=by unfold wearOf;simp[hwo]
        rw[e]at p3;have eu:x.use=x:=by unfold Dev.use;rw[Zf hwo]
        clear e;go_wp2;go_ret;refine⟨by rw[HA2.out];rfl,?_⟩;rw[HA1.out];rw[hbeg.out,eu,Ztd hx2.out];exact .of HB2.out hRc.out
       |true=>
        have e:wearOf (some x)=x.left:=by unfold wearOf;simp[hwo]
        rw[e]at p3;have HWO:=hid hwo;have HEL:=hid e;clear e hwo;by_cases hl:x.left=0
        ·have eu:Hid (x.use=⟨⟨x.d.last,[],true⟩,false,x.left⟩):=by
          show _=_
          unfold Dev.use;rw[Ze (by rw[HWO.out];simp),Zf hl]
         rw[hl]at p3;have HF:=hid (Zqo HD0.out);have HLE:=hid hl;clear hl
         go_wp2_with (first
          |(go_at_call 173;(with_reducible refine HF.out.mono ?_);rintro e w2 ⟨rfl,hpost⟩;obtain⟨R2,D2,hin2,hR2,hch2⟩:=HB2.out.turn (y:=⟨⟨x.d.last,[],true⟩,x.worn,x.left⟩) hi2.out hx2.out HPP.out (by unfold wearOf;rfl) wl wh hpost;have q3:=hin2.cellW (k:=k) (show k<s2.n by have:=hi2.out;omega) 0 (by omega);rw[show((s2.laid (k*3) ⟨⟨x.d.last,[],true⟩,x.worn,x.left⟩).pos (k*3+0))=some ⟨⟨x.d.last,[],true⟩,x.worn,x.left⟩from Zf rfl]at q3;have q3f:=hin2.slots.frozenAt (k*6+3);have HI2:=hid hin2;have HR2:=hid hR2;have HC2:=hid hch2;clear hin2 hR2 hch2 hpost p0 p3 p3f c0))
         go_ret;refine⟨by rw[HA2.out];rfl,?_⟩;rw[HA1.out];obtain⟨r1,r2⟩:=HI2.out.worn (k:=k) (x:=⟨⟨x.d.last,[],true⟩,x.worn,x.left⟩) (show k<s2.n by have:=hi2.out;omega) (Zf rfl) false x.left wl wh (-1) (by unfold wearOf;rfl);rw[Zte]at r1;rw[hbeg.out,eu.out];refine RBTurned.next hRc.out ⟨R2,_,r1,HR2.out,HC2.out.trans (r2.mono fun q hq=> ?_)⟩;subst hq;exact HB2.out.inS
        ·have hl0:0<x.left:=by omega
         have eu:Hid (x.use=⟨x.d,true,x.left-1⟩):=by
          show _=_
          unfold Dev.use;rw[Ze (by rw[HWO.out];simp),Ze hl];have:=HWO.out;cases x
          simp at this;simp[this]
         have hl1:¬x.left=0:=hl;generalize hlx:x.left=lf at*;go_wp2;go_ret;refine⟨by rw[HA2.out];rfl,?_⟩;rw[HA1.out];obtain⟨r1,r2⟩:=HB2.out.worn (k:=k) (x:=x) (show k<s2.n by have:=hi2.out;omega) hx2.out true (lf-1) (by omega) (by omega) (lf-1) (by unfold wearOf;rfl);rw[hbeg.out,eu.out];refine RBTurned.next hRc.out (.of r1 (r2.mono fun q hq=> ?_));subst hq;exact HB2.out.inS
 ·have HIS:=hid (Zql h k hk)
  have hst:s.start j k=(s,.inl 1):=by unfold BaySt.start;rw[Zf (by simpa using hk)]
  rw[hst];clear h hst hk;go_enter Tryz.func138,Tryz.ntmps138
  go_wp2_with (first
   |(go_at_call 172;(with_reducible refine HIS.out.mono ?_);rintro e w1 ⟨rfl,hw⟩;obtain rfl:w=w1:=hw.symm))
  go_ret;exact⟨rfl,.of HB.out (Zl _ _)⟩
open Go.RowKit
theorem Zvj{a:Option Addr}{l:List UInt8}(h:Seg w (Zt a n c) l)(hc:Chg S w w')(ho:l≠ []->∀ad,a=some ad->¬S ad.block):Seg w' (Zt a n c) l:=by
 obtain⟨a',cap,hv,hn,h⟩:=h;simp only [Zn]at hv;obtain⟨rfl,rfl,rfl⟩:=hv;refine⟨a,c,rfl,hn,?_⟩;rcases h with h|⟨b,off,ha,hlt,hx⟩
 ·exact .inl h
 ·by_cases hl:l= []
  ·exact .inl hl
  ·refine .inr ⟨b,off,ha,Zd hlt hc.size,fun j hj=> ?_⟩
   rw[<-hx j hj];exact hc.cell (p:=⟨b,off+j,none⟩) hlt (ho hl ⟨b,off,none⟩ ha)
theorem Zlw{j:Nat}{k:Int}(h:s.start j k=(s',.inr x)):∃i:Nat,k=i/\i<s.n/\s'.n=s.n/\s'.pos (i*3)=some x:=by
 unfold BaySt.start at h;by_cases hk:0≤k/\k<(s.n:Int)
 ·rw[Ze (by simpa using hk)]at h
  obtain⟨i,rfl⟩:∃q:Nat,k=q:=⟨k.toNat,by omega⟩;refine⟨i,rfl,by omega,?_⟩;rw[Int.toNat_natCast]at h;by_cases ht:s.trip=0
  ·rw[Zf ht]at h;cases h
  ·rw[Ze ht]at h
   by_cases hd:s.dark=true
   ·rw[Zf hd]at h;cases h
   ·rw[Ze hd]at h
    cases hx:s.pos (i*3)with
    |none=>rw[hx]at h;cases h
    |some y=>
     rw[hx]at h;simp only [Prod.mk.injEq,Sum.inr.injEq]at h;obtain⟨rfl,rfl⟩:=h;exact⟨rfl,Zf rfl⟩
 ·rw[Zf (by simpa using hk)]at h;cases h
theorem Zmm(d:Dsk)(z:Int)(l:List UInt8):(d.write z l).1=0\/(d.write z l).1=2\/(d.write z l).1=3\/(d.write z l).1=4:=by
 unfold Dsk.write;split
 ·show d.may z=0\/d.may z=2\/d.may z=3\/d.may z=4
  unfold Dsk.may;split
  ·exact .inr (.inl rfl)
  ·split
   ·exact .inr (.inr (.inl rfl))
   ·exact .inl rfl
 ·split
  ·exact .inr (.inr (.inr rfl))
  ·exact .inl rfl
theorem Zm1(d:Dsk):d.flush.1=0\/d.flush.1=2:=by
 unfold Dsk.flush;split
 ·exact .inr rfl
 ·exact .inl rfl
theorem Zjq(h:RBayAt w R c s)(k z:Int)(v:Value)(l:List UInt8)(hcnt:s.cnt 1≤1000000000000)(hm:s.small 1000000)(hv:Seg w v l)(hvR:l≠ []->∀a n cc,v=Zt (some a) n cc->¬R a.block):
  Calls Zw 91 #[Zs (some ⟨c,0,none⟩),O Z k,O Z z,v] w fun e w'=>e=Zu (.int .u16 (((s.write k z l).1:Nat):Int))/\RBPost w R c (s.write k z l).2 w':=by
 obtain⟨gs,cap,ptr,D,h⟩:=h
 have HBG:Hid (Calls Zw 138 #[Zs (some ⟨c,0,none⟩),O Z k,O Z 2] w fun e w'=>
   e=Zu (.int .u16 ((startCode (s.start 1 k).2:Nat):Int))/\RBTurned w R c (s.start 1 k).1 gs cap ptr w'):=Zhv h 1 (by omega) k hcnt
 obtain⟨r,hr⟩:∃r,r=s.write k z l:=⟨_,rfl⟩;rw[<-hr];have HR:=hid hr;have HB:=hid h;have hfew:=h.few;obtain⟨va,vc,rfl⟩:=hv.shape;have HV:=hid hv;have HVR:Hid (l≠ []->∀ad,va=some ad->¬R ad.block):=fun hl ad e=>hvR hl ad _ _ (by rw[e])
 have HSW:=hid ((Zqz s 1 k).2 _ hm);clear hr h hcnt hv hvR hm;cases hst:s.start 1 k with
 |mk s' q=>
  rw[hst]at HBG HSW;cases q with
  |inl cd=>
   have hrd:r=(cd,s'):=by rw[HR.out];unfold BaySt.write;rw[hst]
   obtain⟨h0,h1⟩:=Zjg hst;have hne:¬((cd:Nat):Int)=0:=by omega
   have HRD:=hid hrd;have HC:Hid (startCode (.inl cd)=cd):=rfl;rw[HC.out]at HBG;clear hrd hst h0;go_enter Tryz.func91,Tryz.ntmps91
   go_wp2_with (first
    |(go_at_call 138;(with_reducible refine HBG.out.mono ?_);rintro e w1 ⟨rfl,hpost⟩;have HP:=hid hpost;clear hpost))
   go_ret;rw[HRD.out];exact⟨rfl,HP.out.post⟩
  |inr x=>
   obtain⟨i,rfl,hi,hn',hx⟩:=Zlw hst;have hrd:r=((x.d.write z l).1,s'.laid (i*3) ⟨(x.d.write z l).2,x.worn,x.left⟩):=by rw[HR.out];unfold BaySt.write;rw[hst,Int.toNat_natCast]
   have HRD:=hid hrd;have HC:Hid (startCode (.inr x)=0):=rfl;rw[HC.out]at HBG;have hcd:=Zmm x.d z l;have HX:=hid hx;have HN:=hid hn';obtain⟨cd,hcd'⟩:∃cd,cd=(x.d.write z l).1:=⟨_,rfl⟩;rw[<-hcd']at hcd;have HCD:=hid hcd';have HXS:Hid (x.d.cache.length≤1000000):=HSW.out x rfl;have HK:Hid (∀W R1 D1 p,RBayIn W R1 c s' gs cap ptr D1->ptr (i*3)=some p->Chg R w W->Calls Zw 139 #[Zs (some ⟨p,0,none⟩),O Z z,Zt va l.length vc] W fun e w'=>e=Zu (O Z ((cd:Nat):Int))/\RBTurned W R1 c (s'.laid (i*3) ⟨(x.d.write z l).2,x.worn,x.left⟩) gs cap ptr w'):=by
    intro W R1 D1 p hW hp hc;obtain⟨p',hp',hd⟩:=hW.some' (i*3) (by rw[HN.out];omega) x HX.out;rw[hp]at hp';obtain rfl:=Option.some.inj hp';rw[HCD.out];obtain⟨wl,wh⟩:=hW.wear (i*3) (by rw[HN.out];omega) x HX.out;exact(Znc hd z _ l (Zvj HV.out hc HVR.out) HXS.out).mono fun e w' ⟨q1,q2⟩=>⟨q1,hW.turn (y:=⟨(x.d.write z l).2,x.worn,x.left⟩) (by rw[HN.out];omega) HX.out hp (by unfold wearOf;rfl) wl wh q2⟩
   clear hrd hst hx hn' hcd';go_enter Tryz.func91,Tryz.ntmps91;rcases hcd with rfl|rfl|rfl|rfl
   all_goals
    go_wp2_with (first
     |(go_at_call 138;(with_reducible refine HBG.out.mono ?_);rintro e w1 ⟨rfl,R1,D1,hin,hR1,hch1⟩;obtain⟨p,hp,-⟩:=hin.some' (i*3) (by rw[HN.out];omega) x HX.out;have c0:w1.cell? ⟨c,0,none⟩=some (Zt (some ⟨gs,0,none⟩) s'.n cap):=hin.bay.cell 0;rw[HN.out]at c0;have p0:w1.cell? ⟨gs,i*6,none⟩=some (pcell (ptr (i*3))):=hin.cellP (by rw[HN.out];omega) 0 (by omega);rw[hp]at p0;unfold pcell at p0;rw[Option.map_some]at p0;have HIN:=hid hin;have HP:=hid hp;have HR1:=hid hR1;have HCH1:=hid hch1;clear hin hp hR1 hch1)
     |(go_at_call 139;(with_reducible refine(HK.out _ _ _ _ HIN.out HP.out HCH1.out).mono ?_);rintro e w2 ⟨rfl,hpost⟩;have HPO:=hid hpost;clear hpost))
    go_ret
    rw[HRD.out]
    refine⟨?_,?_⟩
    ·rw[<-HCD.out];rfl
    ·exact RBPost.trans HR1.out HCH1.out HPO.out.post
theorem Zpt(h:RBayAt w R c s)(k:Int)(hcnt:s.cnt 2≤1000000000000):
  Calls Zw 141 #[Zs (some ⟨c,0,none⟩),O Z k] w fun e w'=>e=Zu (.int .u16 (((s.flush k).1:Nat):Int))/\RBPost w R c (s.flush k).2 w':=by
 obtain⟨gs,cap,ptr,D,h⟩:=h
 have HBG:Hid (Calls Zw 138 #[Zs (some ⟨c,0,none⟩),O Z k,O Z 3] w fun e w'=>
   e=Zu (.int .u16 ((startCode (s.start 2 k).2:Nat):Int))/\RBTurned w R c (s.start 2 k).1 gs cap ptr w'):=Zhv h 2 (by omega) k hcnt
 obtain⟨r,hr⟩:∃r,r=s.flush k:=⟨_,rfl⟩;rw[<-hr];have HR:=hid hr;have HB:=hid h;have hfew:=h.few;clear hr h hcnt;cases hst:s.start 2 k with
 |mk s' q=>
  rw[hst]at HBG;cases q with
  |inl cd=>
   have hrd:r=(cd,s'):=by rw[HR.out];unfold BaySt.flush;rw[hst]
   obtain⟨h0,h1⟩:=Zjg hst;have hne:¬((cd:Nat):Int)=0:=by omega
   have HRD:=hid hrd;have HC:Hid (startCode (.inl cd)=cd):=rfl;rw[HC.out]at HBG;clear hrd hst h0;go_enter Tryz.func141,Tryz.ntmps141
   go_wp2_with (first
    |(go_at_call 138;(with_reducible refine HBG.out.mono ?_);rintro e w1 ⟨rfl,hpost⟩;have HP:=hid hpost;clear hpost))
   go_ret;rw[HRD.out];exact⟨rfl,HP.out.post⟩
  |inr x=>
   obtain⟨i,rfl,hi,hn',hx⟩:=Zlw hst;have hrd:r=(x.d.flush.1,s'.laid (i*3) ⟨x.d.flush.2,x.worn,x.left⟩):=by rw[HR.out];unfold BaySt.flush;rw[hst,Int.toNat_natCast]
   have HRD:=hid hrd;have HC:Hid (startCode (.inr x)=0):=rfl;rw[HC.out]at HBG;have hcd:=Zm1 x.d;have HX:=hid hx;have HN:=hid hn';obtain⟨cd,hcd'⟩:∃cd,cd=x.d.flush.1:=⟨_,rfl⟩;rw[<-hcd']at hcd;have HCD:=hid hcd';have HK:Hid (∀W R1 D1 p,RBayIn W R1 c s' gs cap ptr D1->ptr (i*3)=some p->Calls Zw 178 #[Zs (some ⟨p,0,none⟩)] W fun e w'=>e=Zu (O Z ((cd:Nat):Int))/\RBTurned W R1 c (s'.laid (i*3) ⟨x.d.flush.2,x.worn,x.left⟩) gs cap ptr w'):=by
    intro W R1 D1 p hW hp;obtain⟨p',hp',hd⟩:=hW.some' (i*3) (by rw[HN.out];omega) x HX.out;rw[hp]at hp';obtain rfl:=Option.some.inj hp';rw[HCD.out];obtain⟨wl,wh⟩:=hW.wear (i*3) (by rw[HN.out];omega) x HX.out;exact(Znw hd).mono fun e w' ⟨q1,q2⟩=>⟨q1,hW.turn (y:=⟨x.d.flush.2,x.worn,x.left⟩) (by rw[HN.out];omega) HX.out hp (by unfold wearOf;rfl) wl wh q2⟩
   clear hrd hst hx hn' hcd';go_enter Tryz.func141,Tryz.ntmps141;rcases hcd with rfl|rfl
   all_goals
    go_wp2_with (first
     |(go_at_call 138;(with_reducible refine HBG.out.mono ?_);rintro e w1 ⟨rfl,R1,D1,hin,hR1,hch1⟩;obtain⟨p,hp,-⟩:=hin.some' (i*3) (by rw[HN.out];omega) x HX.out;have c0:w1.cell? ⟨c,0,none⟩=some (Zt (some ⟨gs,0,none⟩) s'.n cap):=hin.bay.cell 0;rw[HN.out]at c0;have p0:w1.cell? ⟨gs,i*6,none⟩=some (pcell (ptr (i*3))):=hin.cellP (by rw[HN.out];omega) 0 (by omega);rw[hp]at p0;unfold pcell at p0;rw[Option.map_some]at p0;have HIN:=hid hin;have HP:=hid hp;have HR1:=hid hR1;have HCH1:=hid hch1;clear hin hp hR1 hch1)
     |(go_at_call 178;(with_reducible refine(HK.out _ _ _ _ HIN.out HP.out).mono ?_);rintro e w2 ⟨rfl,hpost⟩;have HPO:=hid hpost;clear hpost))
    go_ret
    rw[HRD.out]
    refine⟨?_,?_⟩
    ·rw[<-HCD.out];rfl
    ·exact RBPost.trans HR1.out HCH1.out HPO.out.post
open Go.RowKit
open Go.RowKit
end Go.Proofs.YtljjjpakcbcioaaGreat
namespace Go
open Value renaming int→O,pointer→Zs,slice→Zt
open IntKind renaming i64→Z
open Ending renaming returned→Zu
open Obj renaming cells→Zv
open Lib(hid)
theorem Ze7{P:Program}{w:World}{o:Oper}{a:Act}{K:Act->World->Prop}{Q:Exit->Act->World->Prop}(s x:Operand)(t e:TypeId)(sz bytes:Nat)
  (ho:o.op=.call {callee:=.builtin .append,args:= #[s,x],argTypes:= #[t,t]}) (hT:SliceOf P t e sz bytes)
  (B:Nat) (v:Value) (n:Nat) (xs:List Value) (hs:a.eval s=v) (hown:w.ownsRow B e sz v n xs)
  (ad:Addr) (m c:Nat) (news:List Value) (hx:a.eval x=Zt (some ad) m c) (hl:news.length=m*sz) (hnews:∀j u,news[j]?=some u->w.cell? (ad.add j)=some u) (h1:∀u∈news,u.oneCell'=true)
  (h63:n+m≤maxLen) (hbytes:(n+m)*bytes≤140737488355328) (hbase:B≤w.heap.size) (hm:0<m)
  (h:∀v' w',w'.ownsRow B e sz v' (n+m) (xs++news)->(v'.ownBlock=v.ownBlock\/v'.ownBlock=some w.heap.size)->Chg (fun k=>v.ownBlock=some k) w w'->K (a.put o.dst v') w'):
  o.wp P a w K Q:=by
 obtain⟨v',w',hr,h2,h3,h4,h5⟩:=Zbj (P:=P) w B t o.type e sz bytes hT v n xs hown ad m c news hl hnews h1 h63 hbytes hbase hm;unfold Oper.wp execOp;simp only [ho,resolve,invoke,builtin,Sem.run_bind,Sem.run_pure,Result.andThen_ok,List.map_toArray,List.map_cons,List.map_nil,hs,hx,hr];exact h v' w' h2 h3 h4
end Go
namespace Go.Proofs.YtljjjpakcbcioaaGreat
open Value renaming int→O,pointer→Zs,slice→Zt
open IntKind renaming i64→Z
open Ending renaming returned→Zu
open Obj renaming cells→Zv
open Go.Proofs.Tryz renaming prog→Zw
open Go.RowKit
open Lib(hid)
variable {s s' s2:BaySt} {x:Dev} {l:List Nat} {c cap gs i k n p:Nat} {D:Nat->Nat->Prop} {ptr:Nat->Option Nat} {R S:Nat->Prop} {v:Value} {W W' w w' w1 w2:World}
structure NewAt (w wx:World) (c:Nat) (l:List Nat) (k:Nat) (v:Value) (ptr:Nat->Option Nat) (D:Nat->Nat->Prop):Prop where
 bay:At wx c #[v,.bool false,O Z (-1),O Z 0,O Z 0,O Z 0] 162
 row:wx.ownsRow w.heap.size 165 6 v k (rslots ptr (fun _=> -1) k)
 disk:∀i,i<k->∃p,ptr (i*3)=some p/\RDisk wx (D i) p (freshDsk (l.getD i 0))
 none':∀i,i%3≠0->ptr i=none
 apart:∀i j,i<k->j<k->i≠j->∀q,D i q->¬D j q
 lo:∀i,i<k->∀q,D i q->w.heap.size≤q/\q≠c
 out:∀i,i<k->∀q,D i q->v.ownBlock≠some q
 cl:w.heap.size≤c
 cv:v.ownBlock≠some c
 below:Below w.heap.size w wx
theorem NewAt.next{wr w3 w4 w5:World}{v':Value}(h:NewAt w wr c l k v ptr D){sb:Nat}{Dn:Nat->Prop}
  (hsb:wr.heap.size≤sb) (h1:Chg (fun q=>q=sb) wr w1) (hs1:sb<w1.heap.size) (hd:RDisk w2 Dn p (freshDsk (l.getD k 0))) (hn:∀q,Dn q->w1.heap.size≤q) (h2:Below w1.heap.size w1 w2)
  (h3:Chg (fun q=>q=sb) w2 w3) (h4:Chg (fun _=>False) w3 w4) (h5:Chg (fun q=>v.ownBlock=some q) w4 w5)
  (hrow:w5.ownsRow w.heap.size 165 6 v' (k+1) (rslots ptr (fun _=> -1) k++ [Zs (some ⟨p,0,none⟩),.pointer none,.pointer none,O Z (-1),O Z (-1),O Z (-1)]))
  (hv':v'.ownBlock=v.ownBlock\/v'.ownBlock=some w4.heap.size):
  NewAt w (w5.setCell ⟨c,0,none⟩ v') c l (k+1) v' (fun i=>if i=k*3 then some p else ptr i) (fun i=>if i=k then Dn else D i):=by
 have hclt:=h.bay.lt;have s1:=h1.size;have s2:=h2.size;have s3:=h3.size;have s4:=h4.size;have s5:=h5.size;have hw:=h.below.size;have hvlt:∀q,v.ownBlock=some q->w.heap.size≤q/\q<wr.heap.size:=fun q hq=>h.row.lt q hq
 have hcn:v'.ownBlock≠some c:=fun e=>by
  rcases hv' with e'|e'
  ·exact h.cv (e' ▸ e)
  ·rw[e']at e
   have:=Option.some.inj e;omega
 have hset:Chg (fun q=>q=c) w5 (w5.setCell ⟨c,0,none⟩ v'):=Zk (S:=fun q=>q=c) (Zl _ _) ⟨c,0,none⟩ (.inl rfl) _;have hb5:At w5 c #[v,.bool false,O Z (-1),O Z 0,O Z 0,O Z 0] 162:=
  ((((h.bay.mod h1 (by omega)).below h2 (by omega)).mod h3 (by omega)).mod h4 (fun e=>e)).mod h5 h.cv
 have hlt:∀i,i<k->∀q,D i q->q<wr.heap.size:=fun i hi q hq=>by
  obtain⟨_,_,hd⟩:=h.disk i hi;exact hd.lt q hq
 have hdlt:=hd.lt;refine⟨hb5.set 0 v',?_,?_,?_,?_,?_,?_,h.cl,hcn,?_⟩
 ·rw[Zm9]
  have e:rslots (fun i=>if i=k*3 then some p else ptr i) (fun _=> -1) k=rslots ptr (fun _=> -1) k:=Zgj (fun i hi=>by rw[Ze (by omega)]) (fun i hi=>rfl);rw[e];have e0:(if k*3=k*3 then some p else ptr (k*3))=some p:=Zf rfl;have e1:(if k*3+1=k*3 then some p else ptr (k*3+1))=none:=by
   rw[Ze (by omega)];exact h.none' _ (by omega)
  have e2:(if k*3+2=k*3 then some p else ptr (k*3+2))=none:=by
   rw[Ze (by omega)];exact h.none' _ (by omega)
  show World.ownsRow _ _ _ _ _ _ (_++ [pcell (if k*3=k*3 then some p else ptr (k*3)),pcell (if k*3+1=k*3 then some p else ptr (k*3+1)),pcell (if k*3+2=k*3 then some p else ptr (k*3+2)),_,_,_])
  rw[e0,e1,e2];exact Zap hrow hset (fun q hq e=>hcn (e ▸ hq))
 ·intro i hi
  by_cases e:i=k
  ·subst e
   refine⟨p,Zf rfl,?_⟩;rw[Zf rfl];refine(((hd.keep h3 (fun q hq e=> ?_)).keep h4 (fun q hq e=>e)).keep h5 (fun q hq e=> ?_)).keep hset (fun q hq e=> ?_)
   ·have:=hn q hq;omega
   ·have:=(hvlt q e).2;have:=hn q hq;omega
   ·have:=hn q hq;omega
  ·obtain⟨p',k1,k2⟩:=h.disk i (by omega)
   refine⟨p',?_,?_⟩
   ·show(if i*3=k*3 then some p else ptr (i*3))=some p'
    rw[Ze (by omega)];exact k1
   ·rw[Ze e]
    have l0:=hlt i (by omega);have hk1:RDisk w1 (D i) p' (freshDsk (l.getD i 0)):=k2.keep h1 (fun q hq e=>by have:=l0 q hq;omega);exact((((hk1.below h2).keep h3 (fun q hq e=>by have:=l0 q hq;omega)).keep h4 (fun q hq e=>e)).keep h5 (fun q hq e=>h.out i (by omega) q hq e)).keep hset (fun q hq e=>(h.lo i (by omega) q hq).2 e)
 ·intro i hi
  show(if i=k*3 then some p else ptr i)=none
  rw[Ze (by omega)];exact h.none' i hi
 ·intro i j hi hj hij q hqi hqj
  by_cases ei:i=k
  ·have ej:j≠k:=by omega
   rw[Zf ei]at hqi;rw[Ze ej]at hqj;have:=hn q hqi;have:=hlt j (by omega) q hqj;omega
  ·rw[Ze ei]at hqi
   by_cases ej:j=k
   ·rw[Zf ej]at hqj
    have:=hn q hqj;have:=hlt i (by omega) q hqi;omega
   ·rw[Ze ej]at hqj
    exact h.apart i j (by omega) (by omega) hij q hqi hqj
 ·intro i hi q hq
  by_cases e:i=k
  ·rw[Zf e]at hq
   have:=hn q hq;exact⟨by omega,by omega⟩
  ·rw[Ze e]at hq
   exact h.lo i (by omega) q hq
 ·intro i hi q hq e'
  by_cases e:i=k
  ·rw[Zf e]at hq
   have h7:=hn q hq;have h8:=hdlt q hq;rcases hv' with e2|e2
   ·rw[e2]at e';have:=(hvlt q e').2;omega
   ·rw[e2]at e';have:=Option.some.inj e';omega
  ·rw[Ze e]at hq
   rcases hv' with e2|e2
   ·rw[e2]at e';exact h.out i (by omega) q hq e'
   ·rw[e2]at e';have:=Option.some.inj e';have:=hlt i (by omega) q hq;omega
 ·have hb1:Below w.heap.size w w1:=Chg.own h.below h1 (fun q hq=>by omega)
  have hb2:Below w.heap.size w w2:=hb1.trans (h2.mono hb1.size);have hb3:Below w.heap.size w w3:=Chg.own hb2 h3 (fun q hq=>by omega);have hb4:Below w.heap.size w w4:=Chg.own hb3 h4 (fun q hq=>hq.elim);have hb5:Below w.heap.size w w5:=Chg.own hb4 h5 (fun q hq=>(hvlt q hq).1);exact hb5.setCell (p:=⟨c,0,none⟩) h.cl _
theorem NewAt.done{wx:World}(h:NewAt w wx c l l.length v ptr D)(h1:1≤l.length)(h2:l.length≤17)(hl:∀x∈l,0<x/\x≤8192):
  RBayAt wx (fun q=>w.heap.size≤q/\q<wx.heap.size) c (freshBay l l.length):=by
 obtain⟨gs,cap,hv,hgs,hgl⟩:=Zas h.row (by omega);subst hv;have hn:(freshBay l l.length).n=l.length:=rfl;have hpos:∀i,i<3*l.length->(freshBay l l.length).pos i=if i%3=0 then some ⟨freshDsk (l.getD (i/3) 0),false,0⟩else none:=fun i hi=>by
  have hlt:i/3<l.length:=by omega
  have hg:0<l.getD (i/3) 0:=by
   rw[Zi,Zh hlt];exact(hl _ (Zj hlt)).1
  show(if i%3=0/\i/3<l.length/\0<l.getD (i/3) 0 then _ else _)=_
  by_cases e:i%3=0
  ·rw[Zf ⟨e,hlt,hg⟩,Zf e]
  ·rw[Ze (fun h=>e h.1),Ze e]
 have hslot:∀i,i<3*l.length->(freshBay l l.length).pos i≠none->i%3=0/\i/3<l.length:=fun i hi hne=>by
  rw[hpos i hi]at hne;by_cases e:i%3=0
  ·exact⟨e,by omega⟩
  ·rw[Ze e]at hne;exact absurd rfl hne
 refine⟨gs,cap,ptr,fun i=>D (i/3),?_,?_,?_,?_,?_,?_,⟨h.cl,h.bay.lt⟩,⟨hgs,hgl⟩,?_,?_,?_,?_,fun q hq=>hq.2,h2,fun j=>Int.le_refl 0,Int.le_refl _,by show(-1:Int)≤_;omega,fun e=>by cases e⟩
 ·exact h.bay
 ·have e:rslots ptr (fun i=>wearOf ((freshBay l l.length).pos i)) l.length=rslots ptr (fun _=> -1) l.length:=Zgj (fun i hi=>rfl) (fun i hi=>by
   rw[hpos i (by omega)]
   split<;>rfl)
  show wx.ownsRow 0 _ 6 _ l.length (rslots ptr (fun i=>wearOf ((freshBay l l.length).pos i)) l.length)
  rw[e]
  exact Zdb h.row
 ·intro i hi x hx
  have hi':i<3*l.length:=hi;obtain⟨e1,e2⟩:=hslot i hi' (by rw[hx];simp);rw[hpos i hi',Zf e1]at hx;obtain rfl:=Option.some.inj hx;obtain⟨p,k1,k2⟩:=h.disk (i/3) e2;exact⟨p,by rw[show i=i/3*3 by omega];exact k1,k2⟩
 ·intro i hi x hx
  have hi':i<3*l.length:=hi;obtain⟨e1,e2⟩:=hslot i hi' (by rw[hx];simp);rw[hpos i hi',Zf e1]at hx;obtain rfl:=Option.some.inj hx;exact⟨Int.le_refl _,by show(0:Int)≤_;omega⟩
 ·intro i hi hx
  have hi':i<3*l.length:=hi;rw[hpos i hi']at hx;by_cases e:i%3=0
  ·rw[Zf e]at hx;cases hx
  ·exact h.none' i e
 ·intro i j hi hj hij hni hnj q hqi hqj
  obtain⟨e1,e2⟩:=hslot i hi hni;obtain⟨e3,e4⟩:=hslot j hj hnj;exact h.apart (i/3) (j/3) e2 e4 (by omega) q hqi hqj
 ·intro i hi hni q hq
  obtain⟨e1,e2⟩:=hslot i hi hni;obtain⟨_,_,k2⟩:=h.disk (i/3) e2;exact⟨(h.lo (i/3) e2 q hq).1,k2.lt q hq⟩
 ·intro i hi hni hq
  obtain⟨e1,e2⟩:=hslot i hi hni;exact(h.lo (i/3) e2 c hq).2 rfl
 ·intro i hi hni hq
  obtain⟨e1,e2⟩:=hslot i hi hni;exact h.out (i/3) e2 gs hq rfl
 ·intro e
  exact h.cv (by rw[e];rfl)
theorem Zf9:SliceOf Zw 160 165 6 48:=
 SliceOf.mk' (z:=.agg #[.pointer none,.pointer none,.pointer none,.int .i64 0,.int .i64 0,.int .i64 0]) Tryz.underlying160 (by decide) (by kernel_rfl) (by kernel_rfl)
theorem Zww(w:World)(a b c d e f:Value)(t:TypeId):∀ad:Addr,some (⟨w.heap.size,0,none⟩:Addr)=some ad->∀j u,[a,b,c,d,e,f][j]?=some u->(w.alloc (Zv #[a,b,c,d,e,f] t)).cell? (ad.add j)=some u:=by
 intro ad had j u hu;obtain rfl:=Option.some.inj had;rw[Addr.add_lit,Nat.zero_add];have h:=(At.new w #[a,b,c,d,e,f] t).cell j;rw[h];simpa using hu
open Go.RowKit
theorem Znn(w:World)(l:List Nat):NewAt w (w.alloc (Zv #[Zt none 0 0,.bool false,O Z (-1),O Z 0,O Z 0,O Z 0] 162)) w.heap.size l 0 (Zt none 0 0) (fun _=>none) (fun _ _=>False):=by
 refine⟨At.new _ _ _,?_,fun i hi=>absurd hi (Nat.not_lt_zero i),fun i _=>rfl,fun i j hi=>absurd hi (Nat.not_lt_zero i),fun i hi=>absurd hi (Nat.not_lt_zero i),fun i hi=>absurd hi (Nat.not_lt_zero i),Za _,fun e=> ?_,(Zb _ _).alloc (Za _) _⟩
 ·have e:rslots (fun _=>none) (fun _=> -1) 0= []:=by unfold rslots;rw[Nat.zero_mul];rfl
  rw[e];exact World.ownsRow_nil _ _ _ _
 ·simp only [Value.ownBlock]at e
  cases e
def RBayMade(w:World)(s:BaySt)(c:Nat)(w':World):Prop:=RBayAt w' (fun q=>w.heap.size≤q/\q<w'.heap.size) c s/\Below w.heap.size w w'
theorem Ztx(l:List Nat)(v:Value)(B:Nat)(w:World)(hv:w.ownsRow B 3 1 v l.length (kcells l))(h1:1≤l.length)(h2:l.length≤17)(hl:∀x∈l,0<x/\x≤8192):
  Calls Zw 41 #[v] w fun e w'=>∃c,e=Zu (.tuple #[Zs (some ⟨c,0,none⟩),.int .u16 0])/\RBayMade w (freshBay l l.length) c w':=by
 obtain⟨g,cap,rfl,hBg,hg⟩:=Zas hv (by omega);have HV:=hid hv;have HL:=hid hl;have hgw:g<w.heap.size:=hg;have HNEW:Hid (∀(n:Nat) W,0<n->n≤8192->Calls Zw 89 #[O Z n] W fun e w'=>∃p D,e=Zu (.tuple #[Zs (some ⟨p,0,none⟩),O Z 0])/\RDisk w' D p (freshDsk n)/\(∀q,D q->W.heap.size≤q)/\Below W.heap.size W w'):=fun n W a b=>Zsm n W a b
 have e1:(w.alloc (Zv #[Zt none 0 0,.bool false,O Z (-1),O Z 0,O Z 0,O Z 0] 162)).heap.size=w.heap.size+1:=Zaa _ _;have HST:=hid (Znn w l);have HVW:Hid (∀W,Below w.heap.size w W->∀i (hi:i<l.length),W.cell? ⟨g,i,none⟩=some (O Z ((l[i]:Nat):Int))):=fun W hW i hi=>by
  rw[hW.cell (p:=⟨g,i,none⟩) hg];have:=HV.out.cellAt i (by omega);rw[this,Zlr l i hi]
 clear hv hl;go_enter Tryz.func41,Tryz.ntmps41;go_wp2;go_loopw [5] (fun q wx=>∃k:Nat,k≤l.length/\q=O Z k/\wx=w.alloc (Zv #[Zt none 0 0,.bool false,O Z (-1),O Z 0,O Z 0,O Z 0] 162)) (fun q _=>l.length-(intOf q).toNat);case atStart=>exact⟨0,by omega,rfl,rfl⟩
 case round=>
  obtain⟨k,hk,rfl,rfl⟩:=hrel;by_cases hk2:k<l.length
  ·have K1:Hid (k+1≤l.length):=hk2
   have d0:=HVW.out _ HST.out.below k hk2;obtain⟨hx1,hx2⟩:=HL.out _ (Zj hk2);generalize l[k]'hk2=x at*;go_wp2;go_roundw;case rel=>exact⟨k+1,K1.out,by go_num,(by trivial)⟩
   case measure=>simp[intOf];have:=K1.out;omega
  ·obtain rfl:k=l.length:=by omega
   obtain⟨wo,hwo⟩:∃wo:World,wo=w.alloc (Zv #[Zt none 0 0,.bool false,O Z (-1),O Z 0,O Z 0,O Z 0] 162):=⟨_,rfl⟩;rw[<-hwo]at HST ⊢;clear hwo;obtain⟨n,hn⟩:∃n,n=l.length:=⟨_,rfl⟩;rw[<-hn];have HN:=hid hn;rw[<-hn]at h1 h2;clear hn hk hk2;go_wp2;go_loopw [6,7] (fun q _ wx=>∃(k:Nat) (v:Value) (ptr:Nat->Option Nat) (D:Nat->Nat->Prop),k≤n/\q=O Z k/\NewAt w wx w.heap.size l k v ptr D) (fun q _ _=>n-(intOf q).toNat);case atStart=>exact⟨0,_,_,_,by omega,rfl,HST.out⟩
   case round=>
    obtain⟨k,v,ptr,D,hk,rfl,hin⟩:=hrel;have HIN:=hid hin;clear hin;by_cases hk2:k<n
    ·have K1:Hid (k+1≤n):=hk2
     have hkl:k<l.length:=by rw[<-HN.out];exact hk2
     have hsz:w.heap.size<wr.heap.size:=HIN.out.bay.lt;obtain⟨x,hx⟩:∃x,x=l[k]:=⟨_,rfl⟩;have HX:Hid (l.getD k 0=x):=by show _=_;rw[hx,Zi,Zh hkl];rfl
     have HXL:Hid (∀W,Below w.heap.size w W->W.cell? ⟨g,k,none⟩=some (O Z ((x:Nat):Int))):=fun W hW=>by rw[hx];exact HVW.out W hW k hkl
     obtain⟨hx1,hx2⟩:=HL.out _ (Zj hkl);rw[<-hx]at hx1 hx2;clear hx hkl;have hb1:Below w.heap.size w (wr.alloc (Zv #[.pointer none,.pointer none,.pointer none,O Z (-1),O Z (-1),O Z (-1)] 165)):=HIN.out.below.alloc (by omega) _;have d0:=HXL.out _ hb1;have HS1:=At.new wr #[.pointer none,.pointer none,.pointer none,O Z (-1),O Z (-1),O Z (-1)] 165;have p0:=HS1.cell 0;have p1:=HS1.cell 1;have p2:=HS1.cell 2;have p3:=HS1.cell 3;have p4:=HS1.cell 4;have p5:=HS1.cell 5;have p0f:=HS1.free 0
     go_upto_region 15 with (first
      |(go_at_call 89;(with_reducible refine(HNEW.out x _ hx1 hx2).mono ?_);rintro e w2 ⟨p,Dn,rfl,hd,hDn,hb2⟩;have q0f:=(HS1.below hb2 HS1.lt).free 0;have q0:=(HS1.below hb2 HS1.lt).cell 0;have HD:=hid hd;have HDN:=hid hDn;have HB2:=hid hb2;clear hd hDn hb2 d0 p0 p1 p2 p3 p4 p5 p0f))
     have HS2:=HS1.below HB2.out HS1.lt;have HSW:=HS2.set 0 (Zs (some ⟨p,0,none⟩));have hsbs:wr.heap.size<w2.heap.size:=HS2.lt;have hc3:Chg (fun q=>q=wr.heap.size) w2 (w2.setCell ⟨wr.heap.size,0,none⟩ (Zs (some ⟨p,0,none⟩))):=Zk (S:=fun q=>q=wr.heap.size) (Zl _ _) ⟨wr.heap.size,0,none⟩ (.inl rfl) _;have hcb1:Chg (fun _=>False) wr (wr.alloc (Zv #[.pointer none,.pointer none,.pointer none,O Z (-1),O Z (-1),O Z (-1)] 165)):=(Zl _ _).alloc _;have hcb2:Chg (fun _=>False) wr w2:=hcb1.trans (Zm HB2.out _);have hcb3:Chg (fun q=>q=wr.heap.size) wr (w2.setCell ⟨wr.heap.size,0,none⟩ (Zs (some ⟨p,0,none⟩))):=(hcb2.mono (fun _ h=>h.elim)).trans hc3;have HBY:=(HIN.out.bay.mod hcb3 (by omega));have HRW:=Zap HIN.out.row hcb3 (fun q hq e=>by have:=(HIN.out.row.lt q hq).2;omega);have HC3:=hid hc3;clear hcb3 hcb2 hcb1 hc3 HS1 HS2 hb1;obtain⟨w3,hw3⟩:∃w3,w3=w2.setCell ⟨wr.heap.size,0,none⟩ (Zs (some ⟨p,0,none⟩)):=⟨_,rfl⟩;have hz3:w3.heap.size=w2.heap.size:=by rw[hw3];simp
     rw[<-hw3]at HSW HBY HRW HC3 ⊢;clear hw3 q0 q0f;have HA0:Hid (At w3 wr.heap.size #[Zs (some ⟨p,0,none⟩),.pointer none,.pointer none,O Z (-1),O Z (-1),O Z (-1)] 165):=HSW;have HK0:=hid HBY;have HR0:=hid HRW;clear HSW HBY HRW;obtain⟨sb,hsb⟩:∃sb,sb=wr.heap.size:=⟨_,rfl⟩;have HSB:=hid hsb;rw[<-hsb]at HA0 HC3 hsz hsbs ⊢;clear hsb;have hvb:∀q,v.ownBlock=some q->w.heap.size≤q/\q<sb:=fun q hq=>by rw[HSB.out];exact HIN.out.row.lt q hq
     have HVB:=hid hvb;have HH:Hid (∀X,At X sb #[Zs (some ⟨p,0,none⟩),.pointer none,.pointer none,O Z (-1),O Z (-1),O Z (-1)] 165->X.cell? ⟨sb,0,none⟩=some (Zs (some ⟨p,0,none⟩))/\X.cell? ⟨sb,1,none⟩=some (.pointer none)/\X.cell? ⟨sb,2,none⟩=some (.pointer none)/\X.cell? ⟨sb,3,none⟩=some (O Z (-1))/\X.cell? ⟨sb,4,none⟩=some (O Z (-1))/\X.cell? ⟨sb,5,none⟩=some (O Z (-1))):=fun X a=>⟨a.cell 0,a.cell 1,a.cell 2,a.cell 3,a.cell 4,a.cell 5⟩
     have HH1:=hid (HH.out w3.drew HA0.out.drew);have HH2:=hid (HH.out (w3.drew.alloc (Zv #[Zs (some ⟨p,0,none⟩),.pointer none,.pointer none,O Z (-1),O Z (-1),O Z (-1)] 165)) (HA0.out.drew.alloc _));have k0:w3.drew.cell? ⟨w.heap.size,0,none⟩=some v:=HK0.out.drew.cell 0;have k1:(w3.drew.alloc (Zv #[Zs (some ⟨p,0,none⟩),.pointer none,.pointer none,O Z (-1),O Z (-1),O Z (-1)] 165)).cell? ⟨w.heap.size,0,none⟩=some v:=(HK0.out.drew.alloc _).cell 0;have k2:(w3.alloc (Zv #[Zs (some ⟨p,0,none⟩),.pointer none,.pointer none,O Z (-1),O Z (-1),O Z (-1)] 165)).drew.cell? ⟨w.heap.size,0,none⟩=some v:=k1;have HR2:Hid ((w3.drew.alloc (Zv #[Zs (some ⟨p,0,none⟩),.pointer none,.pointer none,O Z (-1),O Z (-1),O Z (-1)] 165)).ownsRow w.heap.size 165 6 v k (rslots ptr (fun _=> -1) k)):=Zap HR0.out (((Zl (fun _=>False) _).drew).alloc _) (fun q hq e=>e);have HN6:=hid (Zww w3.drew (Zs (some ⟨p,0,none⟩)) (.pointer none) (.pointer none) (O Z (-1)) (O Z (-1)) (O Z (-1)) 165);have hzd:w3.drew.heap.size=w3.heap.size:=rfl;have hza:(w3.drew.alloc (Zv #[Zs (some ⟨p,0,none⟩),.pointer none,.pointer none,O Z (-1),O Z (-1),O Z (-1)] 165)).heap.size=w3.heap.size+1:=Zaa _ _;have hz6:w.heap.size≤(w3.drew.alloc (Zv #[Zs (some ⟨p,0,none⟩),.pointer none,.pointer none,O Z (-1),O Z (-1),O Z (-1)] 165)).heap.size:=by rw[hza];omega
     have HZ3:=hid hz3;have HZA:=hid hza;clear hz3 hza hzd;have HEND:Hid (∀v' w5,Chg (fun q=>v.ownBlock=some q) (w3.drew.alloc (Zv #[Zs (some ⟨p,0,none⟩),.pointer none,.pointer none,O Z (-1),O Z (-1),O Z (-1)] 165)) w5->w5.ownsRow w.heap.size 165 6 v' (k+1) (rslots ptr (fun _=> -1) k++ [Zs (some ⟨p,0,none⟩),.pointer none,.pointer none,O Z (-1),O Z (-1),O Z (-1)])->(v'.ownBlock=v.ownBlock\/v'.ownBlock=some (w3.drew.alloc (Zv #[Zs (some ⟨p,0,none⟩),.pointer none,.pointer none,O Z (-1),O Z (-1),O Z (-1)] 165)).heap.size)->NewAt w (w5.setCell ⟨w.heap.size,0,none⟩ v') w.heap.size l (k+1) v' (fun i=>if i=k*3 then some p else ptr i) (fun i=>if i=k then Dn else D i)):=fun v' w5 c1 c2 c3=>
      HIN.out.next (sb:=sb) (by rw[HSB.out];exact Za _) ((Zl _ _).alloc (Zv #[.pointer none,.pointer none,.pointer none,O Z (-1),O Z (-1),O Z (-1)] 165)) (by rw[Zaa,HSB.out];omega) (by rw[HX.out];exact HD.out) HDN.out HB2.out HC3.out (((Zl (fun _=>False) _).drew).alloc _) c1 c2 c3
     refine wp_region_held_drew (S := fun w' => w'.cell? ⟨sb, 0, none⟩ = some (Zs (some ⟨p, 0, none⟩)) /\ w'.cell? ⟨sb, 1, none⟩ = some (.pointer none) /\ w'.cell? ⟨sb, 2, none⟩ = some (.pointer none) /\ w'.cell? ⟨sb, 3, none⟩ = some (O Z (-1)) /\ w'.cell? ⟨sb, 4, none⟩ = some (O Z (-1)) /\ w'.cell? ⟨sb, 5, none⟩ = some (O Z (-1))) (by kernel_rfl) HH1.out (fun hHeld => ?_); refine Zq (i := 0) (v := (Zs (some ⟨w.heap.size, 0, none⟩))) rfl (by kernel_rfl) (by kernel_rfl) (by kernel_rfl) (fun _ _ _ h => h) (Or.inl ⟨by rfl, fun w hSw => by go_simp⟩) hHeld ?_; (try simp only [Act.put, List.setIfInBounds_toArray, List.set_cons_zero, List.set_cons_succ, List.getElem_toArray, List.getElem_cons_zero]); refine Zq (i := 1) (v := (Zs (some ⟨w.heap.size, 0, none⟩))) rfl (by kernel_rfl) (by kernel_rfl) (by kernel_rfl) (fun _ _ _ h => h) (Or.inl ⟨by rfl, fun w hSw => by go_simp⟩) hHeld ?_; (try simp only[Act.put,Zx]); refine Zq (i := 2) (v := (Zs (some ⟨w.heap.size, 0, none⟩))) rfl (by kernel_rfl) (by kernel_rfl) (by kernel_rfl) (fun _ _ _ h => h) (Or.inl ⟨by rfl, fun w hSw => by go_simp⟩) hHeld ?_; (try simp only[Act.put,Zx]); refine Zq (i := 3) (v := (Zs (some ⟨w.heap.size, 0, none⟩))) rfl (by kernel_rfl) (by kernel_rfl) (by kernel_rfl) (fun _ _ _ h => h) (Or.inl ⟨by rfl, fun w hSw => by go_simp⟩) hHeld ?_; (try simp only[Act.put,Zx]); refine Zq (i := 5) (v := (.agg #[Zs (some ⟨p, 0, none⟩), .pointer none, .pointer none, O Z (-1), O Z (-1), O Z (-1)])) rfl (by kernel_rfl) (by kernel_rfl) (by kernel_rfl) (fun _ _ _ h => h) (Or.inl ⟨by rfl, fun w hSw => by go_simp⟩) hHeld ?_; (try simp only[Act.put,Zx]); refine wpAnyH_ready (rs := [4, 6]) (by kernel_rfl) (by simp) ?_; refine AllReadyH.cons (o := { dst := some 61, op := Op.load 160 (Operand.tmp 60), type := 160, pos := "ref.go:39", after := #[{ on := 3, ground := Ground.data }], guard := none }) rfl (fun K hK => ?_) (AllReadyH.cons (o := { dst := some 63, op := Op.buildSlice 160 1 #[(0, Operand.tmp 62)], type := 160, pos := "ref.go:39", after := #[{ on := 5, ground := Ground.data }], guard := none }) rfl (fun K hK => ?_) AllReadyH.nil)
     focus
      go_simp
      refine hK.out _ _ HH1.out (fun hHeld => ?_)
      clear hK K
      (try simp only[Act.put,Zx])
      refine wpAnyH_ready (rs := [6]) (by kernel_rfl) (by simp) ?_
      refine AllReadyH.cons (o := { dst := some 63, op := Op.buildSlice 160 1 #[(0, Operand.tmp 62)], type := 160, pos := "ref.go:39", after := #[{ on := 5, ground := Ground.data }], guard := none }) rfl (fun K hK => ?_) AllReadyH.nil
     rotate_left
     focus
      go_simp
      refine hK.out _ _ HH2.out (fun hHeld => ?_)
      clear hK K
      (try simp only[Act.put,Zx])
      refine wpAnyH_ready (rs := [4]) (by kernel_rfl) (by simp) ?_
      refine AllReadyH.cons (o := { dst := some 61, op := Op.load 160 (Operand.tmp 60), type := 160, pos := "ref.go:39", after := #[{ on := 3, ground := Ground.data }], guard := none }) rfl (fun K hK => ?_) AllReadyH.nil
     rotate_left
     all_goals
      go_simp
      refine hK.out _ _ HH2.out (fun hHeld => ?_)
      clear hK K
      (try simp only[Act.put,Zx])
      refine wpAnyH_ready (rs := [7]) (by kernel_rfl) (by simp) ?_
      refine AllReadyH.cons (o := { dst := some 64, op := Op.call { callee := Callee.builtin Builtin.append, args := #[Operand.tmp 61, Operand.tmp 63], argTypes := #[160, 160] }, type := 160, pos := "ref.go:39", after := #[{ on := 4, ground := Ground.data }, { on := 6, ground := Ground.data }], guard := none }) rfl (fun K hK => ?_) AllReadyH.nil
      rw [Zf (by rfl)]
      refine Ze7 _ _ 160 165 6 48 rfl Zf9 w.heap.size v k (rslots ptr (fun _ => -1) k) rfl HR2.out _ 1 1 [Zs (some ⟨p, 0, none⟩), .pointer none, .pointer none, O Z (-1), O Z (-1), O Z (-1)] rfl rfl (HN6.out _ rfl) (by intro u hu; simp at hu; rcases hu with rfl | rfl | rfl | rfl | rfl | rfl <;> rfl) (by unfold maxLen; omega) (by omega) hz6 (by omega) ?_; intro v' w5 hrow hv' hch; have HCH := hid hch; have HA5 := (HA0.out.drew.alloc _).mod hch (fun e => by have := (HVB.out _ e).2; omega); have HK5 := (HK0.out.drew.alloc _).mod hch HIN.out.cv; have HH5 := hid (HH.out _ HA5); have k50 := HK5.cell 0; have k0f := HK5.free 0; have HROW := hid hrow; have HV' := hid hv'; obtain ⟨va, vc, rfl⟩ := Zab hrow; have HH6 := hid (HH.out (w5.setCell ⟨w.heap.size, 0, none⟩ (Zt va (k + 1) vc)) (HA5.mod (Zk (S := fun q => q = w.heap.size) (Zl _ _) ⟨w.heap.size, 0, none⟩ (.inl rfl) _) (by omega))); clear hch HA5 HK5 hrow hv'; refine hK.out _ _ HH5.out (fun hHeld => ?_); clear hK K; (try simp only [Act.put, List.setIfInBounds_toArray, List.set_cons_zero, List.set_cons_succ]); refine Zq (i := 8) (v := (Zs (some ⟨w.heap.size, 0, none⟩))) rfl (by kernel_rfl) (by kernel_rfl) (by kernel_rfl) (fun _ _ _ h => h) (Or.inl ⟨by rfl, fun w hSw => by go_simp⟩) hHeld ?_; (try simp only[Act.put,Zx]); refine Zq (i := 9) (v := (Zs (some ⟨w.heap.size, 0, none⟩))) rfl (by kernel_rfl) (by kernel_rfl) (by kernel_rfl) (fun _ _ _ h => h) (Or.inl ⟨by rfl, fun w hSw => by go_simp⟩) hHeld ?_; (try simp only[Act.put,Zx]); refine wpAnyH_ready (rs := [10]) (by kernel_rfl) (by simp) ?_; refine AllReadyH.cons (o := { dst := none, op := Op.store 160 (Operand.tmp 66) (Operand.tmp 64), type := 0, pos := "ref.go:39", after := #[{ on := 9, ground := Ground.data }, { on := 7, ground := Ground.data }, { on := 7, ground := Ground.chain }, { on := 0, ground := Ground.phase }, { on := 1, ground := Ground.phase }, { on := 2, ground := Ground.phase }, { on := 3, ground := Ground.phase }, { on := 4, ground := Ground.phase }, { on := 5, ground := Ground.phase }, { on := 6, ground := Ground.phase }, { on := 7, ground := Ground.phase }], guard := none }) rfl (fun K hK => ?_) AllReadyH.nil; go_simp; refine hK.out _ _ HH6.out (fun hHeld => ?_); clear hK K; (try simp only[Act.put,Zx]); refine wpAnyH_done (by kernel_rfl) ?_ _; clear k50 k0f; go_wp2; go_roundw; case measure => simp [intOf]; have := K1.out; omega
      exact⟨k+1,_,_,_,K1.out,by go_num,HEND.out _ _ HCH.out HROW.out HV'.out⟩
    ·obtain rfl:k=n:=by omega
     go_wp2;go_ret2;exact⟨_,rfl,by rw[HN.out]at HIN;exact HIN.out.done (by rw[<-HN.out];exact h1) (by rw[<-HN.out];exact h2) HL.out,HIN.out.below⟩
end Go.Proofs.YtljjjpakcbcioaaGreat
