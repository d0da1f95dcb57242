
/- Several texts in one: Open, Blk2, Rag, IMap, DiskA, DiskB. -/
import Derived.Test.YtmemlkmnhcealaaGreatBlk
import Derived.OpenShut
import Derived.ProofKit
import Derived.Maps.AppendAt
import Derived.Deep.Matrix
import Derived.SizedLaws
import Derived.Deep.MidRow
import Derived.Maps.OwnSet
import Derived.Maps.OwnOps
import Derived.MapFrom
import Derived.Test.YtmemlkmnhcealaaGreatRows
import Derived.WalkSpells
import Derived.WalkLawsBesides
import Derived.Lib.Hide
import Derived.Deep.QuietTactic
import Derived.BigQuiet
import Derived.Deep.RegionHeld3
import Derived.Deep.RegionWith
set_option linter.unusedVariables false
set_option maxRecDepth 100000
set_option maxHeartbeats 4000000
namespace Go
open Value renaming int→O,slice→Zt
open IntKind renaming i64→Z
open Obj renaming cells→Zv
open Go.ChangeShapes Go.WideShapes Go.ChangeAt Go.RowKit
open Lib(hid)
theorem Zki(zs:List Int)(h:∀n∈zs,(Lit.int .u8 n).wf=true)(j:Nat)(hj:j<zs.length):
  ((UInt8.ofNat (zs.getD j 0).toNat).toNat:Int)=zs.getD j 0:=by
 have hm:zs.getD j 0∈zs:=by
  rw[Zi,Zh hj];simp
 have hw:=h _ hm;have hb:=bounds_u8 hw;rw[UInt8.toNat_ofNat'];omega
end Go
namespace Go
open Value renaming int→O,slice→Zt
open IntKind renaming i64→Z
open Obj renaming cells→Zv
open Go.ChangeShapes Go.WideShapes Go.ChangeAt Go.RowKit Go.Deep
open Lib(hid)
section
variable {P:Program}
end
theorem Zap{S:Nat->Prop}{w w':World}{base:Nat}{e:TypeId}{size:Nat}{v:Value}{n:Nat}{xs:List Value}(h:w.ownsRow base e size v n xs)(hc:Chg S w w')(hS:∀k,v.ownBlock=some k->¬S k):w'.ownsRow base e size v n xs:=by
 refine⟨h.1,?_⟩;rcases h.2 with hn|⟨g,cap,cur,hv,hg,hh,r⟩
 ·exact .inl hn
 ·exact .inr ⟨g,cap,cur,hv,hg,(hc.block g (lt_of_block hh) (hS g (by rw[hv];rfl))).trans hh,r⟩
theorem Zao{w:World}{base:Nat}{v:Value}{l:List UInt8}(h:w.ownsRow base 5 1 v l.length (ucells l)):Seg w v l:=by
 obtain⟨hl,h⟩:=h;rcases h with ⟨rfl,h⟩|⟨g,cap,cur,hv,hb,hg,hc,_,hs,ht⟩
 ·have:l= []:=List.eq_nil_of_length_eq_zero h
  subst this;exact Seg.nil w
 ·subst hv
  refine Zea (t:=5) (cs:=cur) hg hc fun j hj=> ?_
  have:(ucells l)[j]?=some (.int .u8 ((l[j].toNat:Nat):Int)):=by simp[ucells,hj]
  rw[<-this,<-ht,List.getElem?_take,Zf (by omega)];simp
def Segs(w:World)(v:Value)(ls:List (List UInt8)):Prop:=
 ∃a cap,v=Zt a ls.length cap/\ls.length≤cap/\
  (ls= []\/∃b off,a=some ⟨b,off,none⟩/\b<w.heap.size/\∀j (h:j<ls.length),∃u,w.cell? ⟨b,off+j,none⟩=some u/\Seg w u ls[j])
theorem Segs.below{w w':World}{v:Value}{ls:List (List UInt8)}(h:Segs w v ls)(hb:Below w.heap.size w w'):Segs w' v ls:=by
 obtain⟨a,cap,hv,hc,h⟩:=h;refine⟨a,cap,hv,hc,?_⟩;rcases h with h|⟨b,off,ha,hlt,hx⟩
 ·exact .inl h
 ·refine .inr ⟨b,off,ha,Zd hlt hb.size,fun j hj=> ?_⟩
  obtain⟨u,h1,h2⟩:=hx j hj;exact⟨u,(hb.cell (p:=⟨b,off+j,none⟩) hlt).trans h1,h2.below hb⟩
theorem Segs.shape{w:World}{v:Value}{ls:List (List UInt8)}(h:Segs w v ls):∃a cap,v=Zt a ls.length cap:=by
 obtain⟨a,cap,hv,_⟩:=h;exact⟨a,cap,hv⟩
theorem Segs.full{w:World}{v:Value}{ls:List (List UInt8)}(h:Segs w v ls)(hl:0<ls.length):
  ∃b off cap,v=Zt (some ⟨b,off,none⟩) ls.length cap/\b<w.heap.size/\∀j (h:j<ls.length),∃u,w.cell? ⟨b,off+j,none⟩=some u/\Seg w u ls[j]:=by
 obtain⟨a,cap,hv,_,h⟩:=h;rcases h with rfl|⟨b,off,rfl,hb,hc⟩
 ·simp at hl
 ·exact⟨b,off,cap,hv,hb,hc⟩
theorem Zcq{H:Type}{P:Program}{e:TypeId}:∀{ds:List (DataW H)} {i:Nat} {d:DataW H},ds[i]?=some d->∀n∈d.weights P e,n∈DataW.weightsAll P e ds
 |d0::ds,0,d,hd,n,hn=>by
  simp only [List.getElem?_cons_zero,Zg]at hd;subst hd;simp only [DataW.weightsAll,List.mem_append];exact .inl hn
 |d0::ds,i+1,d,hd,n,hn=>by
  simp only [List.getElem?_cons_succ]at hd;simp only [DataW.weightsAll,List.mem_append];exact .inr (Zcq hd n hn)
 | [],i,d,hd,_,_=>by simp at hd
end Go
namespace Go
open Value renaming int→O,slice→Zt
open IntKind renaming i64→Z
open Obj renaming cells→Zv
open Go.RowKit
open Lib(hid)
def Value.many:Value->Nat
 | Zt _ n _=>n
 |_=>0
section
variable {W W':World} {B:Nat} {e:TypeId} {sz:Nat} {v:Value} {n:Nat} {xs:List Value}
theorem Zas(h:W.ownsRow B e sz v n xs)(hn:0<n):∃g cap,v=Zt (some ⟨g,0,none⟩) n cap/\B≤g/\g<W.heap.size:=by
 rcases h.2 with ⟨_,h0⟩|⟨g,cap,cur,rfl,hb,hg,_⟩
 ·omega
 ·exact⟨g,cap,rfl,hb,lt_of_block hg⟩
theorem Zab(h:W.ownsRow B e sz v n xs):∃a cap,v=Zt a n cap:=by
 rcases h.2 with ⟨rfl,rfl⟩|⟨g,cap,cur,rfl,_⟩
 ·exact⟨none,0,rfl⟩
 ·exact⟨_,cap,rfl⟩
theorem Zad{S:Nat->Prop}(h:W.ownsRow B e sz v n xs)(hc:Chg S W W')(hS:∀g,v.ownBlock=some g->¬S g):W'.ownsRow B e sz v n xs:=Zap h hc hS
end
structure Fam (W:World) (B:Nat) (e:TypeId) (sz:Nat) (T:Nat->Nat) (vs:List Value) (c:Nat->List Value->Prop):Prop where
 row:∀j (h:j<vs.length),∃xs,W.ownsRow B e sz vs[j] vs[j].many xs/\c j xs
 tag:∀j (h:j<vs.length) g,vs[j].ownBlock=some g->T g=j+2
namespace Fam
variable {W W':World} {B:Nat} {e:TypeId} {sz:Nat} {T T':Nat->Nat} {vs:List Value} {c c':Nat->List Value->Prop}
theorem keep{t:Nat}(h:Fam W B e sz T vs c)(hc:Chg (fun k=>T k=t) W W')(ht:∀j,j<vs.length->t≠j+2):Fam W' B e sz T vs c:=
 ⟨fun j hj=>by
  obtain⟨xs,h1,h2⟩:=h.row j hj
  exact⟨xs,Zad h1 hc fun g hg e=>ht j hj (by rw[<-e,h.tag j hj g hg]),h2⟩,h.tag⟩
end Fam
def tagAt(T:Nat->Nat)(x t:Nat):Nat->Nat:=fun g=>if g=x then t else T g
theorem Zjn(T:Nat->Nat)(x t:Nat):tagAt T x t x=t:=Zf rfl
theorem Zux(T:Nat->Nat)(x t g:Nat)(h:g<x):tagAt T x t g=T g:=Ze (by omega)
section
variable {P:Program} (w:World)
theorem Zbj(B:Nat)(t ty e:TypeId)(sz bytes:Nat)(hT:SliceOf P t e sz bytes)
  (v:Value) (n:Nat) (xs:List Value) (hown:w.ownsRow B e sz v n xs)
  (a:Addr) (m c:Nat) (news:List Value) (hl:news.length=m*sz) (hnews:∀j u,news[j]?=some u->w.cell? (a.add j)=some u) (h1:∀u∈news,u.oneCell'=true)
  (h63:n+m≤maxLen) (hbytes:(n+m)*bytes≤140737488355328) (hbase:B≤w.heap.size) (hm:0<m):
  ∃v' w',(Builtin.append_ #[t,t] ty #[v,Zt (some a) m c]).run P w=.ok v' w'/\w'.ownsRow B e sz v' (n+m) (xs++news)/\
   (v'.ownBlock=v.ownBlock\/v'.ownBlock=some w.heap.size)/\Chg (fun k=>v.ownBlock=some k) w w'/\
   (∀B' u k ys,w.ownsRow B' e sz u k ys->(u.ownBlock=v.ownBlock->k≤n)->w'.ownsRow B' e sz u k ys):=by
 obtain⟨ht,h0,i,z,hi,hz,rfl,rfl,hzs⟩:=hT;obtain⟨v',w',hr,h2,h3,_,h5⟩:=run_append_own_at (P:=P) w B t ty e i z i.size i.bytes ht hi hz rfl rfl hzs h0 v n xs hown a m c news hl hnews h1 h63 hbytes hbase;have hchg:Chg (fun k=>v.ownBlock=some k) w w':=Chg.ofGrown h3 fun k hk=>.inl hk
 have hsmall:n+m≤9223372036854775807:=by simp only [maxLen]at h63;omega
 refine⟨v',w',hr,h2,h5,hchg,?_⟩;have fresh:∀o:Obj,w'=w.drew.alloc o->∀B' u k ys,w.ownsRow B' e i.size u k ys->w'.ownsRow B' e i.size u k ys:=by
  intro o ho B' u k ys hu;subst ho;exact World.ownsRow.alloc (w:=w.drew) hu o
 rcases hown.2 with ⟨rfl,rfl⟩|⟨g,cap,cur,rfl,hbg,hg,hnc,hcm,hcs,htake⟩
 ·have hx:xs= []:=List.eq_nil_of_length_eq_zero (by simpa using hown.1)
  subst hx;have hr':=run_append_nil (P:=P) w t ty e i z ht hi hz a m c news hl hnews hm (by omega) (by have hb:=hbytes;simp only [Nat.zero_add]at hb;omega);rw[hr]at hr';simp only [Result.ok.injEq]at hr';exact fun B' u k ys hu _=>fresh _ hr'.2 B' u k ys hu
 ·by_cases hroom:n+m≤cap
  ·have hfit:n*i.size+news.length≤cur.size:=by rw[hl,hcs,<-Nat.add_mul];exact Nat.mul_le_mul_right _ hroom
   have hr':=run_append_room (P:=P) w t ty e i ht hi g n cap cur hg a m c news hl hnews h1 hroom hfit;rw[hr]at hr';simp only [Result.ok.injEq]at hr';obtain⟨_,rfl⟩:=hr';intro B' u k ys hu hk;by_cases hub:u.ownBlock=some g
   ·have hkn:=hk hub
    rcases hu.2 with ⟨rfl,_⟩|⟨g',cap',cur',rfl,hb',hg',hnc',hcm',hcs',htake'⟩
    ·simp[Value.ownBlock]at hub
    ·simp[Value.ownBlock]at hub
     subst hub;rw[hg]at hg';simp only [Zg,Obj.cells.injEq,and_true]at hg';subst hg';refine⟨hu.1,.inr ⟨g',cap',_,rfl,hb',setRow_heap w g' cur _ e _ hg,hnc',hcm',?_,?_⟩⟩
     ·simp only [List.size_toArray,Zo,List.length_take,List.length_drop,Array.length_toList]
      omega
     ·have hle:k*i.size≤n*i.size:=Nat.mul_le_mul_right _ hkn
      rw[<-htake',List.append_assoc,List.take_append_of_le_length (by rw[List.length_take,Array.length_toList];omega),List.take_take,Nat.min_eq_left hle]
   ·refine Zad hu hchg fun x hx hxe=>hub ?_
    rw[hx];simpa [Value.ownBlock]using hxe.symm
  ·have holds:∀j u,xs[j]?=some u->w.cell? ((⟨g,0,none⟩:Addr).add j)=some u:=hown.cells (g:=g) rfl
   have hr':=run_append_grow (P:=P) w t ty e i z ht hi hz ⟨g,0,none⟩ n cap xs hown.1 holds a m c news hl hnews (by omega) (by omega) (growslice_fits (by omega) hbytes);rw[hr]at hr';simp only [Result.ok.injEq]at hr';exact fun B' u k ys hu _=>fresh _ hr'.2 B' u k ys hu
end
section
variable {P:Program} {w:World}
theorem Zar{ops:Array Oper}{rest:List Oper}{o:Oper}{a:Act}{Q:Exit->Act->World->Prop}(hgd:o.guard=none)(s x:Operand)(t e:TypeId)(sz bytes:Nat)
  (ho:o.op=.call {callee:=.builtin .append,args:= #[s,x],argTypes:= #[t,t]}) (hT:SliceOf P t e sz bytes)
  (B:Nat) (v:Value) (n:Nat) (xs:List Value) (hs:a.eval s=v) (hown:w.ownsRow B e sz v n xs)
  (ad:Addr) (m c:Nat) (news:List Value) (hx:a.eval x=Zt (some ad) m c) (hl:news.length=m*sz) (hnews:∀j u,news[j]?=some u->w.cell? (ad.add j)=some u) (h1:∀u∈news,u.oneCell'=true)
  (h63:n+m≤maxLen) (hbytes:(n+m)*bytes≤140737488355328) (hbase:B≤w.heap.size) (hm:0<m)
  (h:∀v' w',w'.ownsRow B e sz v' (n+m) (xs++news)->(v'.ownBlock=v.ownBlock\/v'.ownBlock=some w.heap.size)->Chg (fun k=>v.ownBlock=some k) w w'->
   (∀B' u k ys,w.ownsRow B' e sz u k ys->(u.ownBlock=v.ownBlock->k≤n)->w'.ownsRow B' e sz u k ys)->wpList P ops Q rest (a.put o.dst v') w'):
  wpList P ops Q (o::rest) a w:=by
 refine wpList_plain hgd fun K hK=> ?_
 obtain⟨v',w',hr,h2,h3,h4,h5⟩:=Zbj (P:=P) w B t o.type e sz bytes hT v n xs hown ad m c news hl hnews h1 h63 hbytes hbase hm;unfold Oper.wp execOp;simp only [ho,resolve,invoke,builtin,Sem.run_bind,Sem.run_pure,Result.andThen_ok,List.map_toArray,List.map_cons,List.map_nil,hs,hx,hr];exact hK _ _ (h v' w' h2 h3 h4 h5)
end
def elems(f:Nat->List Value)(n:Nat):List Value:=(List.range n).flatMap f
theorem Zbp{f:Nat->List Value}{sz:Nat}(hf:∀k,(f k).length=sz):∀n,(elems f n).length=n*sz
 |0=>by simp[elems]
 |n+1=>by
  have:=Zbp hf n;unfold elems at this ⊢;rw[List.range_succ,List.flatMap_append,Zo,this];simp[hf,Nat.add_mul]
theorem Zdg(f:Nat->List Value)(n:Nat):elems f (n+1)=elems f n++f n:=by
 unfold elems;rw[List.range_succ,List.flatMap_append];simp
theorem Zou{f:Nat->List Value}{sz:Nat}(hf:∀k,(f k).length=sz)(n k j:Nat)(hk:k<n)(hj:j<sz):(elems f n)[k*sz+j]?=(f k)[j]?:=by
 induction n with
 |zero=>omega
 |succ n ih=>
  rw[Zdg];by_cases h:k<n
  ·have h1:k*sz+j<n*sz:=Zd (by rw[Nat.add_mul];omega:k*sz+j<(k+1)*sz) (Nat.mul_le_mul_right _ h)
   rw[List.getElem?_append_left (by rw[Zbp hf];exact h1)];exact ih h
  ·obtain rfl:k=n:=by omega
   rw[List.getElem?_append_right (by rw[Zbp hf];omega),Zbp hf];congr 1;omega
end Go
namespace Go
open Value renaming int→O,slice→Zt
open IntKind renaming i64→Z
open Obj renaming cells→Zv
open Go.RowKit Go.Maps Go.ChangeMaps Go.MapKept
open Lib(hid)
def World.imap(w:World)(P:Program)(k e:TypeId)(b n:Nat)(f:Int->Option Int):Prop:=
 ∃D:DataW Unit,w.ownsMap P k (plainElem P e) b n D/\∀z,(Lit.int .i64 z).wf=true->Go.Maps.has D (.int .i64 z)=(f z).isSome/\∀v,f z=some v->D.atKey (.int .i64 z) (.lit (.int .i64 0))=.lit (.int .i64 v)
section
variable {P:Program} {k e:TypeId} {w w':World} {b n:Nat} {f:Int->Option Int}
theorem World.imap.lt(h:w.imap P k e b n f):b<w.heap.size:=by
 obtain⟨D,h,_⟩:=h;exact h.lt
theorem World.imap_made(w:World)(P:Program)(k e:TypeId):(w.alloc (.map #[] 0)).imap P k e w.heap.size 0 (fun _=>none):=
 ⟨.map [],World.ownsMap_made w P k _,fun z _=>⟨rfl,fun v h=>by cases h⟩⟩
theorem World.imap.mod{S:Nat->Prop}(h:w.imap P k e b n f)(hc:Chg S w w')(hS:¬S b):w'.imap P k e b n f:=by
 obtain⟨D,⟨es,clock,h1,h2⟩,h3⟩:=h;exact⟨D,⟨es,clock,(hc.block b (lt_of_block h1) hS).trans h1,h2⟩,h3⟩
theorem World.imap.mono(h:w.imap P k e b n f){m:Nat}(hm:n≤m):w.imap P k e b m f:=by
 obtain⟨D,h1,h3⟩:=h;exact⟨D,h1.mono hm,h3⟩
theorem World.imap.noCells(h:w.imap P k e b n f){cs:Array Value}{t:TypeId}:¬At w b cs t:=by
 intro ha;obtain⟨D,⟨es,clock,h1,_⟩,_⟩:=h;unfold At at ha;rw[h1]at ha;cases ha
theorem World.imap.noRow(h:w.imap P k e b n f){B:Nat}{t:TypeId}{sz:Nat}{v:Value}{m:Nat}{xs:List Value}(hr:w.ownsRow B t sz v m xs):v.ownBlock≠some b:=by
 intro hv;rcases hr.2 with ⟨rfl,_⟩|⟨g,cap,cur,rfl,_,hg,_⟩
 ·cases hv
 ·simp only [Value.ownBlock,Zg]at hv
  subst hv;exact h.noCells hg
theorem World.imap.noCell(h:w.imap P k e b n f){o:Nat}{u:Value}:w.cell? ⟨b,o,none⟩≠some u:=by
 intro hc;obtain⟨D,⟨es,clock,h1,_⟩,_⟩:=h;simp[World.cell?,h1]at hc
theorem mapTurned_chg{b:Nat}(h:w.mapTurned w' b):Chg (fun x=>x=b) w w':=
 Chg.ofGrown (World.mapTurned.grown h) (fun x hx=>.inl (by simpa using hx.symm))
section
variable {ops:Array Oper} {rest:List Oper} {o:Oper} {a:Act} {Q:Exit->Act->World->Prop}
theorem Zdz(hg:o.guard=none)(m x:Operand)(t:TypeId)(hop:o.op=Op.lookup t m x true)(ht:P.underlying t=some (.map k e))(hk:P.underlying k=some (.int .i64))(he:P.underlying e=some (.int .i64))(hz:(zeroValue e).run P w=.ok (.int .i64 0) w)
  (hm:a.eval m=.map (some b)) (hown:w.imap P k e b n f) (z:Int) (hx:a.eval x=.int .i64 z) (hwf:(Lit.int .i64 z).wf=true)
  (hK:wpList P ops Q rest (a.put o.dst (.tuple #[O Z ((f z).getD 0),.bool (f z).isSome])) w) (hK0:f z=none->∀c,wpList P ops Q rest (a.put o.dst (.tuple #[O Z c,.bool false])) w):
  wpList P ops Q (o::rest) a w:=by
 obtain⟨D,h1,h2⟩:=hown;refine wpList_lookup_own_ok_int w hg m x t hop k e .i64 (int_keyed hk) ht he hz b n D hm h1 (.int .i64 z) (.int .i64 z) hx (keyOf_int_mk hk hwf) fun c hc hwc=> ?_
 obtain⟨h3,h4⟩:=h2 z hwf;rw[h3];cases hf:f z with
 |none=>exact hK0 hf c
 |some v=>
  rw[hf]at hK;have:=h4 v hf;rw[this]at hc;simp only [DataW.lit.injEq,Lit.int.injEq,true_and]at hc;subst hc;exact hK
theorem Zgu(hg:o.guard=none)(m x:Operand)(t:TypeId)(hop:o.op=Op.lookup t m x true)(ht:P.underlying t=some (.map k e))(hk:P.underlying k=some (.int .i64))(he:P.underlying e=some (.int .i64))(hz:(zeroValue e).run P w=.ok (.int .i64 0) w)
  (hm:a.eval m=.map (some b)) (hown:w.imap P k e b n f) (z v:Int) (hx:a.eval x=.int .i64 z) (hwf:(Lit.int .i64 z).wf=true) (hf:f z=some v)
  (hK:wpList P ops Q rest (a.put o.dst (.tuple #[O Z v,.bool true])) w):wpList P ops Q (o::rest) a w:=
 Zdz hg m x t hop ht hk he hz hm hown z hx hwf (by rw[hf];exact hK) (fun h=>by rw[hf]at h;cases h)
theorem Zgs(hg:o.guard=none)(m x:Operand)(t:TypeId)(hop:o.op=Op.lookup t m x true)(ht:P.underlying t=some (.map k e))(hk:P.underlying k=some (.int .i64))(he:P.underlying e=some (.int .i64))(hz:(zeroValue e).run P w=.ok (.int .i64 0) w)
  (hm:a.eval m=.map (some b)) (hown:w.imap P k e b n f) (z:Int) (hx:a.eval x=.int .i64 z) (hwf:(Lit.int .i64 z).wf=true) (hf:f z=none)
  (hK:∀c,wpList P ops Q rest (a.put o.dst (.tuple #[O Z c,.bool false])) w):wpList P ops Q (o::rest) a w:=
 Zdz hg m x t hop ht hk he hz hm hown z hx hwf (by rw[hf];exact hK 0) (fun _=>hK)
theorem Zhu(hg:o.guard=none)(m x v:Operand)(t:TypeId)(hop:o.op=Op.mapUpdate t m x v)(ht:P.underlying t=some (.map k e))(hk:P.underlying k=some (.int .i64))(he:P.underlying e=some (.int .i64))
  (hm:a.eval m=.map (some b)) (hown:w.imap P k e b n f) (hn:n<maxLen) (z y:Int) (hx:a.eval x=.int .i64 z) (hv:a.eval v=.int .i64 y) (hwf:(Lit.int .i64 z).wf=true) (hwy:(Lit.int .i64 y).wf=true)
  (hK:∀w',w'.imap P k e b (n+1) (fun i=>if i=z then some y else f i)->Chg (fun x=>x=b) w w'->wpList P ops Q rest (a.put o.dst undef) w'):
  wpList P ops Q (o::rest) a w:=by
 obtain⟨D,h1,h2⟩:=hown;refine wpList_mapUpdate_in w hg m x v t hop k e (int_keyed hk) ht (plainElem P e) b n D hm h1 hn (.int .i64 z) (.int .i64 y) (.int .i64 z) hx hv (keyOf_int_mk hk hwf) (.lit (.int .i64 y)) [] (plainElem_int he hwy) fun w' h3 h4=> ?_
 refine hK w' ⟨_,h3,fun i hi=> ?_⟩ (mapTurned_chg h4);by_cases hiz:i=z
 ·subst hiz
  simp only [Zf];refine⟨Go.Maps.has_put_same (k:=.int .i64 i) h1.isMap trivial _,fun v hv=> ?_⟩;cases hv
  exact Go.Maps.atKey_put_same (k:=.int .i64 i) h1.isMap trivial _ _
 ·simp only [Ze hiz]
  have hne:(Lit.int .i64 i)≠Lit.int .i64 z:=fun h=>hiz (by simpa using h)
  obtain⟨k1,k2⟩:=h2 i hi;exact⟨(Go.Maps.has_put_other hne _).trans k1,fun v hv=>(Go.Maps.atKey_put_other hne _ _).trans (k2 v hv)⟩
theorem Zdl(hg:o.guard=none)(m:Operand)(t:TypeId)(hop:o.op=Op.call {callee:=Callee.builtin Builtin.clear,args:= #[m],argTypes:= #[t]})(ht:P.underlying t=some (.map k e))
  (hm:a.eval m=.map (some b)) (hown:w.imap P k e b n f)
  (hK:∀w',w'.imap P k e b 0 (fun _=>none)->Chg (fun x=>x=b) w w'->wpList P ops Q rest (a.put o.dst (.tuple #[])) w'):
  wpList P ops Q (o::rest) a w:=by
 obtain⟨D,⟨es,clock,hb,hF,hs,hD⟩,h2⟩:=hown;refine wpList_plain hg fun K' hK'=> ?_
 have hrun:(Builtin.clear_ #[t] o.type #[.map (some b)]).run P w=.ok (.tuple #[]) {w with heap:=w.heap.setIfInBounds b (.map #[] clock)}:=by
  simp[Builtin.clear_,run_underlying ht,MapKept.run_getObj_map hb,MapKept.run_setObj_map _ hb,Result.andThen]
 unfold Oper.wp;simp[execOp,hop,resolve,invoke,builtin,hm,hrun,Result.andThen];refine hK' _ _ (hK _ ⟨.map [],⟨#[],clock,?_,⟨by simp,stamped_empty clock,by simp⟩,Za _,rfl⟩,fun z _=>⟨rfl,fun v h=>by cases h⟩⟩ ?_)
 ·have hlt:=lt_of_block hb
  simp[hlt]
 ·refine⟨rfl,rfl,rfl,by simp,fun x hx hne=> ?_⟩
  simp[Ne.symm hne]
end
end
end Go
namespace Go
open Value renaming int→O,slice→Zt
open IntKind renaming i64→Z
open Obj renaming cells→Zv
open Go.RowKit
open Lib(hid)
section
variable {P:Program}
theorem Zaq{ops:Array Oper}{rest:List Oper}{o:Oper}{a:Act}{Q:Exit->Act->World->Prop}{w:World}(hg:o.guard=none)(l c:Operand)(t e:TypeId)(sz bytes:Nat)
  (hop:o.op=Op.makeSlice t l c) (hT:SliceOf P t e sz bytes) (u:Value) (hz:((P.info? e).bind (·.zero)).map (·.cells)=some (List.replicate sz u).toArray)
  (kl kc:IntKind) (L C:Int) (n:Nat) (hl:a.eval l=.int kl L) (hc:a.eval c=.int kc C) (hL:L=(n:Int)) (hC:C=(n:Int))
  (b2:bytes*n≤281474976710656) (b3:n≤maxLen)
  (hK:∀w',At w' w.heap.size (List.replicate (n*sz) u).toArray e->Below w.heap.size w w'->wpList P ops Q rest (a.put o.dst (Zt (some ⟨w.heap.size,0,none⟩) n n)) w'):
  wpList P ops Q (o::rest) a w:=by
 obtain⟨h1,h0,i,z',h2,h3,h4,h5,h6⟩:=hT;have hcells:z'.cells=(List.replicate sz u).toArray:=by
  rw[h2]at hz;simpa [h3]using hz
 refine wpList_make_full w hg l c t hop w.heap.size e i z' sz h1 h2 h3 h4 kl kc L C n hl hc hL hC (by rw[h5];exact b2) b3 (Za _) fun w' hown hgr=>hK w' ?_ ?_
 ·obtain⟨hlen,hh⟩:=hown
  rcases hh with ⟨hh,_⟩|⟨g',cap,cur,hv,hb,hg',hc',_,hs,ht⟩
  ·cases hh
  ·simp only [Zn,Zg,Addr.mk.injEq]at hv
   obtain⟨⟨rfl,_,_⟩,_,rfl⟩:=hv;have e1:cur.toList=List.replicate (n*sz) u:=by
    rw[List.take_of_length_le (by simp[hs])]at ht;rw[ht];apply List.ext_getElem?;intro j;rw[List.getElem?_replicate,hcells];by_cases hj:j<n*sz
    ·have hm:j%sz<sz:=Nat.mod_lt _ h0
     simp[madeCells,hj,hm]
    ·simp[madeCells,hj]
   rw[<-e1,Array.toArray_toList];exact hg'
 ·exact(Zb _ _).grown hgr (Za _) (fun k hk=>by simp at hk)
end
end Go
namespace Go.Proofs.YtmemlkmnhcealaaGreat
open Value renaming int→O,slice→Zt
open IntKind renaming i64→Z
open Obj renaming cells→Zv
open Go.Proofs.Tryz renaming prog→Zw
open Go.RowKit
open Lib(hid)
variable {g p t:Nat} {T:Nat->Nat} {W W' w:World}
abbrev Sec:=List UInt8
def zsec:Sec:=List.replicate 128 0
structure Dsk where
 last:List Sec
 cache:List (Nat×Sec)
 failed:Bool
def waits(c:List (Nat×Sec))(z:Int):Option Sec:=(c.reverse.find? (fun x=>decide ((x.1:Int)=z))).map (·.2)
theorem Zhg(z:Int):waits [] z=none:=rfl
theorem Zfw(c:List (Nat×Sec))(a:Nat)(s:Sec)(z:Int):waits (c++ [(a,s)]) z=if (a:Int)=z then some s else waits c z:=by
 unfold waits;rw[List.reverse_append];simp only [List.reverse_cons,List.reverse_nil,List.nil_append,List.singleton_append,List.find?_cons];by_cases h:(a:Int)=z<;>simp[h]
def Dsk.cur(d:Dsk)(at':Nat):Sec:=(waits d.cache (at':Int)).getD (d.last.getD at' zsec)
def Seen(c:List (Nat×Sec))(f:Int->Option Int):Prop:=∀z,(f z=none->waits c z=none)/\(∀i,f z=some i->∃(j:Nat) (h:j<c.length),i=j/\waits c z=some c[j].2)
theorem Seen.nil:Seen [] (fun _=>none):=fun z=>⟨fun _=>rfl,fun i h=>by cases h⟩
theorem Seen.snoc{c:List (Nat×Sec)}{f:Int->Option Int}(h:Seen c f)(a:Nat)(s:Sec):Seen (c++ [(a,s)]) (fun i=>if i=(a:Int)then some (c.length:Int)else f i):=fun z=>by
 rw[Zfw];by_cases hz:z=(a:Int)
 ·subst hz
  simp only [Zf];exact⟨fun h=>(by cases h),fun i hi=>⟨c.length,by simp,by simpa using hi.symm,by simp⟩⟩
 ·have e1:(fun i=>if i=(a:Int)then some (c.length:Int)else f i) z=f z:=Ze hz
  rw[e1,Ze (fun e=>hz e.symm)];refine⟨(h z).1,fun i hi=> ?_⟩;obtain⟨j,hj,h1,h2⟩:=(h z).2 i hi;refine⟨j,by simp;omega,h1,?_⟩;rw[h2,List.getElem_append_left hj]
def secCells(l:List Sec):List Value:=l.flatMap ucells
def wcell(x:Nat×Sec):List Value:=O Z (x.1:Int)::ucells x.2
def wcells(l:List (Nat×Sec)):List Value:=l.flatMap wcell
theorem Zau{l:List Sec}(h:∀s∈l,s.length=128):(secCells l).length=l.length*128:=by
 induction l with
 |nil=>rfl
 |cons s l ih=>
  unfold secCells at ih ⊢;rw[List.flatMap_cons,Zo,ih (fun x hx=>h x (List.mem_cons_of_mem _ hx)),Zag,h s List.mem_cons_self,List.length_cons];omega
theorem Zcp{l:List Sec}(h:∀s∈l,s.length=128)(i j:Nat)(hi:i<l.length)(hj:j<128):(secCells l)[i*128+j]?=(ucells l[i])[j]?:=by
 induction l generalizing i with
 |nil=>simp at hi
 |cons s l ih=>
  have hs:(ucells s).length=128:=by rw[Zag,h s List.mem_cons_self]
  show(ucells s++secCells l)[i*128+j]?=_
  match i with
  |0=>rw[List.getElem?_append_left (by omega)];simp
  |i+1=>
   rw[List.getElem?_append_right (by omega),hs,show(i+1)*128+j-128=i*128+j by omega,ih (fun x hx=>h x (List.mem_cons_of_mem _ hx)) i (by simpa using hi)];simp
theorem Zc0(n:Nat):secCells (List.replicate n zsec)=List.replicate (n*128) (.int .u8 0):=by
 induction n with
 |zero=>rfl
 |succ n ih=>
  have e:ucells zsec=List.replicate 128 (.int .u8 0):=by unfold ucells zsec;rw[List.map_replicate];rfl
  show ucells zsec++secCells (List.replicate n zsec)=_
  rw[ih,e,List.replicate_append_replicate];congr 1;omega
theorem Zkt:SliceOf Zw 128 186 128 128:=
 SliceOf.mk' (z:=.agg (List.replicate 128 (.int .u8 0)).toArray) Tryz.underlying128 (by decide) (by kernel_rfl) (by kernel_rfl)
theorem Zoa:((Tryz.prog.info? 186).bind (·.zero)).map (·.cells)=some (List.replicate 128 (.int .u8 0)).toArray:=by kernel_rfl
structure DiskAt (W:World) (T:Nat->Nat) (t p:Nat) (d:Dsk):Prop where
 at':∃(gl gm:Nat) (cv:Value) (f:Int->Option Int),At W p #[Zt (some ⟨gl,0,none⟩) d.last.length d.last.length,cv,.map (some gm),.bool d.failed] 132/\
  At W gl (secCells d.last).toArray 186/\W.ownsRow 0 188 129 cv d.cache.length (wcells d.cache)/\
  W.imap Zw 3 3 gm d.cache.length f/\Seen d.cache f/\T gl=t/\T gm=t/\(∀g,cv.ownBlock=some g->T g=t)
 tag:T p=t
 len:∀s∈d.last,s.length=128
 clen:∀x∈d.cache,x.2.length=128
 cin:∀x∈d.cache,x.1<d.last.length
 few:d.last.length≤8192
 some':0<d.last.length
theorem DiskAt.keep{S:Nat->Prop}{d:Dsk}(h:DiskAt W T t p d)(hc:Chg S W W')(hS:∀k,T k=t->¬S k):DiskAt W' T t p d:=by
 obtain⟨gl,gm,cv,f,h1,h2,h3,h4,h5,h6,h7,h8⟩:=h.at';exact⟨⟨gl,gm,cv,f,h1.mod hc (hS p h.tag),h2.mod hc (hS gl h6),Zad h3 hc (fun g hg=>hS g (h8 g hg)),h4.mod hc (hS gm h7),h5,h6,h7,h8⟩,h.tag,h.len,h.clen,h.cin,h.few,h.some'⟩
theorem DiskAt.below{d:Dsk}(h:DiskAt W T t p d)(hb:Below W.heap.size W W'):DiskAt W' T t p d:=
 h.keep (Zm hb (fun _=>False)) (fun _ _ h=>h)
theorem DiskAt.retag{T':Nat->Nat}{d:Dsk}(h:DiskAt W T t p d)(hT:∀g,g<W.heap.size->T' g=T g):DiskAt W T' t p d:=by
 obtain⟨gl,gm,cv,f,h1,h2,h3,h4,h5,h6,h7,h8⟩:=h.at';exact⟨⟨gl,gm,cv,f,h1,h2,h3,h4,h5,by rw[hT gl h2.lt];exact h6,by rw[hT gm h4.lt];exact h7,fun g hg=>by rw[hT g (h3.lt g hg).2];exact h8 g hg⟩,by rw[hT p h1.lt];exact h.tag,h.len,h.clen,h.cin,h.few,h.some'⟩
def Dsk.may(d:Dsk)(z:Int):Nat:=if d.failed then 2 else if z<0\/(d.last.length:Int)≤z then 3 else 0
theorem Zeh(T:Nat->Nat)(t p:Nat)(d:Dsk)(z:Int)(w:World)(h:DiskAt w T t p d):
  Calls Zw 119 #[.pointer (some ⟨p,0,none⟩),O Z z] w fun e w'=>e=.returned (.int .u16 (d.may z:Nat))/\w'=w:=by
 obtain⟨gl,gm,cv,f,h1,_⟩:=h.at';have hfew:=h.few;have c0:w.cell? ⟨p,0,none⟩=some (Zt (some ⟨gl,0,none⟩) d.last.length d.last.length):=h1.cell 0;have c3:w.cell? ⟨p,3,none⟩=some (.bool d.failed):=h1.cell 3;clear h1 h;unfold Dsk.may;cases hf:d.failed
 ·rw[hf]at c3
  generalize d.last.length=n at*;by_cases hz:z<0
  ·rw[Ze (by simp),Zf (.inl hz)]
   go_enter Tryz.func119,Tryz.ntmps119;go_wp2;go_ret;exact⟨rfl,rfl⟩
  ·by_cases hn:(n:Int)≤z
   ·rw[Ze (by simp),Zf (.inr hn)]
    go_enter Tryz.func119,Tryz.ntmps119;go_wp2;go_ret;exact⟨rfl,rfl⟩
   ·rw[Ze (by simp),Ze (by omega)]
    go_enter Tryz.func119,Tryz.ntmps119;go_wp2;go_ret;exact⟨rfl,rfl⟩
 ·rw[hf]at c3
  rw[Zf rfl];go_enter Tryz.func119,Tryz.ntmps119;go_wp2;go_ret;exact⟨rfl,rfl⟩
end Go.Proofs.YtmemlkmnhcealaaGreat
namespace Go
open Value renaming int→O,slice→Zt
open IntKind renaming i64→Z
open Obj renaming cells→Zv
open Lib(hid)
section
variable {P:Program}
theorem Zbg{ops:Array Oper}{rest:List Oper}{o:Oper}{a:Act}{Q:Exit->Act->World->Prop}{w:World}(hg:o.guard=none)(e:TypeId)(hop:o.op=Op.alloc e)(cs:Array Value)
  (hz:((P.info? e).bind (·.zero)).map (·.cells)=some cs) (hK:wpList P ops Q rest (a.put o.dst (.pointer (some ⟨w.heap.size,0,none⟩))) (w.alloc (Zv cs e))):wpList P ops Q (o::rest) a w:=by
 refine wpList_plain hg fun K hK'=> ?_
 cases hq:P.info? e with
 |none=>simp[hq]at hz
 |some i=>
  cases hzz:i.zero with
  |none=>simp[hq,hzz]at hz
  |some z=>
   simp[hq,hzz]at hz;subst hz;unfold Oper.wp execOp;simp[hop,Instr.alloc,zeroValue,typeInfo,hq,hzz,newVar,Result.andThen];exact hK' _ _ hK
theorem Za3{ops:Array Oper}{rest:List Oper}{o:Oper}{a:Act}{w:World}{Q:Exit->Act->World->Prop}(hgd:o.guard=none)(ty:TypeId)(x y:Operand)(ho:o.op=.store ty x y)
  (c cells:Array Value) (hx:a.eval x=.pointer (some ⟨w.heap.size,0,none⟩)) (hy:a.eval y=.agg cells)
  (hi:(P.info? ty).map (·.size)=some cells.size) (hs:c.size=cells.size) (h1:cells.all (·.oneCell')=true)
  (h:wpList P ops Q rest (a.put o.dst undef) (w.alloc (Zv cells ty))):wpList P ops Q (o::rest) a (w.alloc (Zv c ty)):=
 Zbv hgd ty x y ho w.heap.size hx cells hy ty c (At.new w c ty) hi hs h1 (by rw[World.setRow_alloc_new];exact h)
end
end Go
namespace Go.Proofs.YtmemlkmnhcealaaGreat
open Value renaming int→O,slice→Zt
open IntKind renaming i64→Z
open Obj renaming cells→Zv
open Go.Proofs.Tryz renaming prog→Zw
open Go.RowKit
open Lib(hid)
variable {g p t:Nat} {T:Nat->Nat} {W W' w:World}
def zcells:Array Value:=(List.replicate 128 (.int .u8 0)).toArray
theorem Zg9:zcells.size=128:=by simp[zcells]
theorem Zgm:((Tryz.prog.info? 186).bind (·.zero)).map (·.cells)=some zcells:=by kernel_rfl
theorem Zor(w:World):(zeroValue 3).run Zw w=.ok (O Z 0) w:=(zero_of_info (P:=Zw) (t:=3) (v:=O Z 0) (n:=1) (by kernel_rfl)).1 w
theorem Zjh(n:Nat)(h:n≤9223372036854775807):(Lit.int .i64 (n:Int)).wf=true:=WalkArith.wf_i64 ⟨by omega,by omega⟩
theorem Zf4(l:List UInt8):(ucells l).toArray.all (·.oneCell')=true:=all_oneCell_toArray (Za8 l)
theorem Zat:SliceOf Zw 36 5 1 1:=SliceOf.mk' (z:=.int .u8 0) Tryz.underlying36 (by decide) (by kernel_rfl) rfl
theorem Zcw(ad:Addr)(cap:Nat)(l:List UInt8)(w:World)(hl:l.length≤140737488355000)(hv:Seg w (Zt (some ad) l.length cap) l):
  Calls Zw 98 #[Zt (some ad) l.length cap] w fun e w'=>∃v,e=.returned v/\w'.ownsRow w.heap.size 5 1 v l.length (ucells l)/\Below w.heap.size w w':=by
 have qN:∀W:World,(binOp .eql 36 (.slice (some ad) l.length cap) (.slice none 0 0)).run Zw W=.ok (.bool false) W:=fun W=>Lib.run_eql_slice_nil W _ _ (some ad) _ _ 0 0 Tryz.underlying36
 go_enter Tryz.func98,Tryz.ntmps98;have HC:=hid (hv.below ((Zb w.heap.size w).alloc (Za _) (Zv #[] 5))).cells;clear hv;go_wp2_with (refine Zbb rfl _ _ 36 5 1 1 rfl Zat w.heap.size (Zt (some ⟨w.heap.size,0,none⟩) 0 0) 0 [] rfl (World.ownsRow_made w #[] 0 (Za _) (by unfold maxLen;omega) rfl) (some ad) l.length cap (ucells l) rfl (by rw[Zag,Nat.mul_one]) HC.out.2.1 HC.out.2.2 (Za8 l) (by unfold maxLen;omega) (by omega) (by rw[Zaa];omega) ?_;intro v1 w1 hown hb hg);go_ret;rw[Nat.zero_add,List.nil_append]at hown;exact⟨v1,rfl,hown,((Zb w.heap.size w).alloc (Za _) _).trans hb⟩
theorem Znk{l:List Value}{t:TypeId}(h:At w g l.toArray t)(o:Nat)(cs:List Value)(hc:∀j,j<cs.length->l[o+j]?=cs[j]?):w.rangeAt g o cs:=by
 intro j v hv;have hj:j<cs.length:=(List.getElem?_eq_some_iff.1 hv).1;rw[h.cell,List.getElem?_toArray,hc j hj,hv]
theorem Zgk{l:List Sec}{t:TypeId}(h:At w g (secCells l).toArray t)(hl:∀s∈l,s.length=128)(i:Nat)(hi:i<l.length):w.rangeAt g (i*128) (ucells l[i]):=
 Znk h _ _ fun j hj=>Zcp hl i j hi (by rw[Zag,hl _ (Zj hi)]at hj;exact hj)
theorem Zhl{l:List (Nat×Sec)}(h:∀x∈l,x.2.length=128)(i j:Nat)(hi:i<l.length)(hj:j<129):(wcells l)[i*129+j]?=(wcell l[i])[j]?:=by
 induction l generalizing i with
 |nil=>simp at hi
 |cons s l ih=>
  have hs:(wcell s).length=129:=by unfold wcell;rw[List.length_cons,Zag,h s List.mem_cons_self]
  show(wcell s++wcells l)[i*129+j]?=_
  match i with
  |0=>rw[List.getElem?_append_left (by omega)];simp
  |i+1=>
   rw[List.getElem?_append_right (by omega),hs,show(i+1)*129+j-129=i*129+j by omega,ih (fun x hx=>h x (List.mem_cons_of_mem _ hx)) i (by simpa using hi)];simp
theorem Zbi:(Tryz.prog.info? 186).map (·.size)=some 128:=by kernel_rfl
theorem Zan{b b':Nat}{e:TypeId}{sz:Nat}{v:Value}{n:Nat}{xs:List Value}(h:w.ownsRow b e sz v n xs)(hb:b'≤b):w.ownsRow b' e sz v n xs:=
 ⟨h.1,h.2.imp id (fun ⟨g,cap,cur,a,c,r⟩=>⟨g,cap,cur,a,Zc hb c,r⟩)⟩
def ReadPost(w:World)(s:Sec)(e:Ending)(w':World):Prop:=
 ∃v,e=.returned (.tuple #[v,.int .u16 0])/\w'.ownsRow w.heap.size 5 1 v 128 (ucells s)/\Below w.heap.size w w'
theorem Zix(T:Nat->Nat)(t p i:Nat)(d:Dsk)(w:World)(h:DiskAt w T t p d)(hf:d.failed=false)(hi:i<d.last.length)(hn:waits d.cache (i:Int)=none):
  Calls Zw 159 #[.pointer (some ⟨p,0,none⟩),O Z i] w (ReadPost w d.last[i]):=by
 have hmay:=hid (Zeh T t p d i w h);have hm0:d.may (i:Int)=0:=by unfold Dsk.may;rw[hf,Ze (by simp),Ze (by omega)]
 rw[hm0]at hmay;obtain⟨gl,gm,cv,f,h1,h2,h3,h4,h5,h6,h7,h8⟩:=h.at';have hfew:=h.few;have hlen:=h.len _ (Zj hi);have c0:w.cell? ⟨p,0,none⟩=some (Zt (some ⟨gl,0,none⟩) d.last.length d.last.length):=h1.cell 0;have hlt:=h1.lt;have HR:=hid (Zgk h2 h.len i hi);have H1:=hid h1;have H4:=hid h4;have hfz:f (i:Int)=none:=by
  cases hfi:f (i:Int)with
  |none=>rfl
  |some v=>obtain⟨j,hj,_,e2⟩:=(h5 (i:Int)).2 v hfi;rw[hn]at e2;cases e2
 clear h h1 h2 h3 h4 h5 hf hn;generalize d.last[i]=s at*;generalize d.last.length=n at*;have hul:(ucells s).length=128:=by rw[Zag,hlen]
 have HMa:Hid ((w.alloc (Zv (ucells s).toArray 186)).imap Zw 3 3 gm d.cache.length f):=H4.out.mod ((Zl (fun _=>False) w).alloc _) (fun h=>h);have c2:(w.alloc (Zv (ucells s).toArray 186)).cell? ⟨p,2,none⟩=some (.map (some gm)):=(H1.out.alloc _).cell 2;have HCL:Hid (Calls Zw 98 #[Zt (some ⟨w.heap.size,0,none⟩) 128 128] (w.alloc (Zv (ucells s).toArray 186)) fun e w'=>∃v,e=.returned v/\w'.ownsRow (w.alloc (Zv (ucells s).toArray 186)).heap.size 5 1 v 128 (ucells s)/\Below (w.alloc (Zv (ucells s).toArray 186)).heap.size (w.alloc (Zv (ucells s).toArray 186)) w'):=by
  have:=Zcw ⟨w.heap.size,0,none⟩ 128 s (w.alloc (Zv (ucells s).toArray 186)) (by omega) (Zea (At.new w _ _) (by omega) (fun j hj=>by simp[ucells,hj]));rw[hlen]at this;exact this
 go_enter Tryz.func159,Tryz.ntmps159
 go_wp2_with (first
  |(go_at_call 119;refine hmay.out.mono ?_;rintro e w1 ⟨rfl,rfl⟩)
  |(refine wpList_load_mid rfl 186 _ rfl gl (i*128) rfl (ucells s) _ HR.out Tryz.underlying186 rfl (by rw[hul];exact Zbi) ?_)
  |(refine Zbg rfl 186 rfl zcells Zgm ?_)
  |(refine Za3 rfl 186 _ _ rfl zcells (ucells s).toArray rfl rfl (by rw[List.size_toArray,hul];exact Zbi) (Zg9.trans (by rw[List.size_toArray,hul])) (Zf4 s) ?_)
  |(refine Zgs rfl _ _ 129 rfl Tryz.underlying129 Tryz.underlying3 Tryz.underlying3 (Zor _) rfl HMa.out (i:Int) rfl (Zjh i (by omega)) hfz ?_;intro c)
  |(go_at_call 98;refine HCL.out.mono ?_;rintro e w2 ⟨v2,rfl,hown,hb⟩))
 go_ret2;exact⟨v2,rfl,Zan hown (by rw[Zaa];omega),Zac ((Zb _ _).alloc (Za _) _) hb⟩
theorem Ziu(T:Nat->Nat)(t p i:Nat)(d:Dsk)(w:World)(h:DiskAt w T t p d)(hf:d.failed=false)(hi:i<d.last.length)(s:Sec)(hn:waits d.cache (i:Int)=some s):
  Calls Zw 159 #[.pointer (some ⟨p,0,none⟩),O Z i] w (ReadPost w s):=by
 have hmay:=hid (Zeh T t p d i w h);have hm0:d.may (i:Int)=0:=by unfold Dsk.may;rw[hf,Ze (by simp),Ze (by omega)]
 rw[hm0]at hmay;obtain⟨gl,gm,cv,f,h1,h2,h3,h4,h5,h6,h7,h8⟩:=h.at';have hfew:=h.few;have hlen:=h.len _ (Zj hi);have c0:w.cell? ⟨p,0,none⟩=some (Zt (some ⟨gl,0,none⟩) d.last.length d.last.length):=h1.cell 0;have hlt:=h1.lt;have HR:=hid (Zgk h2 h.len i hi);have H1:=hid h1;have H4:=hid h4;obtain⟨j,gc,ccap,hfz,hcv,HR2,hsl,hjl,hclt⟩:∃(j gc ccap:Nat),f (i:Int)=some (j:Int)/\∃_:cv=Zt (some ⟨gc,0,none⟩) d.cache.length ccap,Hid (w.rangeAt gc (j*129+1) (ucells s))/\s.length=128/\j<d.cache.length/\gc<w.heap.size:=by
  cases hfi:f (i:Int)with
  |none=>have:=(h5 (i:Int)).1 hfi;rw[hn]at this;cases this
  |some v=>
   obtain⟨j,hj,e1,e2⟩:=(h5 (i:Int)).2 v hfi;rw[hn]at e2;simp only [Zg]at e2;obtain⟨gc,ccap,hcv,_,hgl⟩:=Zas h3 (by omega);refine⟨j,gc,ccap,by rw[e1],hcv,?_,by rw[e2];exact h.clen _ (Zj hj),hj,hgl⟩;intro q v' hq;have hq2:q<128:=by have:=(List.getElem?_eq_some_iff.1 hq).1;rw[Zag,e2,h.clen _ (Zj hj)]at this;exact this
   rw[hcv]at h3;rw[h3.cellAt (j*129+1+q) (by omega),show j*129+1+q=j*129+(1+q) by omega,Zhl h.clen j (1+q) hj (by omega),Nat.add_comm 1 q,<-hq,e2];rfl
 have c1:w.cell? ⟨p,1,none⟩=some (Zt (some ⟨gc,0,none⟩) d.cache.length ccap):=by rw[<-hcv];exact h1.cell 1
 have hcm:d.cache.length≤9223372036854775807:=by have:=h3.2;rcases this with ⟨_,h0⟩|⟨_,cap',_,_,_,_,k1,k2,_⟩;omega;unfold maxLen at k2;omega
 subst hcv;clear h h1 h2 h3 h4 h5 hf hn;generalize d.last[i]=s0 at*;generalize d.cache.length=m at*;generalize d.last.length=n at*;have hul:(ucells s0).length=128:=by rw[Zag,hlen]
 have hus:(ucells s).length=128:=by rw[Zag,hsl]
 have HMa:Hid ((w.alloc (Zv (ucells s0).toArray 186)).imap Zw 3 3 gm m f):=H4.out.mod ((Zl (fun _=>False) w).alloc _) (fun h=>h);have c2:(w.alloc (Zv (ucells s0).toArray 186)).cell? ⟨p,2,none⟩=some (.map (some gm)):=(H1.out.alloc _).cell 2;have d1:(w.alloc (Zv (ucells s0).toArray 186)).cell? ⟨p,1,none⟩=some (Zt (some ⟨gc,0,none⟩) m ccap):=(H1.out.alloc _).cell 1;have HR3:Hid ((w.alloc (Zv (ucells s0).toArray 186)).rangeAt gc (j*129+1) (ucells s)):=fun q v hq=>by
  rw[World.cell?_alloc_lt _ _ (a:=⟨gc,j*129+1+q,none⟩) hclt];exact HR2.out q v hq
 have HCL:Hid (Calls Zw 98 #[Zt (some ⟨w.heap.size,0,none⟩) 128 128] (w.alloc (Zv (ucells s).toArray 186)) fun e w'=>∃v,e=.returned v/\w'.ownsRow (w.alloc (Zv (ucells s).toArray 186)).heap.size 5 1 v 128 (ucells s)/\Below (w.alloc (Zv (ucells s).toArray 186)).heap.size (w.alloc (Zv (ucells s).toArray 186)) w'):=by
  have:=Zcw ⟨w.heap.size,0,none⟩ 128 s (w.alloc (Zv (ucells s).toArray 186)) (by omega) (Zea (At.new w _ _) (by omega) (fun j hj=>by simp[ucells,hj]));rw[hsl]at this;exact this
 go_enter Tryz.func159,Tryz.ntmps159
 go_wp2_with (first
  |(go_at_call 119;refine hmay.out.mono ?_;rintro e w1 ⟨rfl,rfl⟩)
  |(refine wpList_load_mid rfl 186 _ rfl gl (i*128) rfl (ucells s0) _ HR.out Tryz.underlying186 rfl (by rw[hul];exact Zbi) ?_)
  |(refine wpList_load_mid rfl 186 _ rfl gc (j*129+1) rfl (ucells s) _ HR3.out Tryz.underlying186 rfl (by rw[hus];exact Zbi) ?_)
  |(refine Zbg rfl 186 rfl zcells Zgm ?_)
  |(refine Za3 rfl 186 _ _ rfl zcells (ucells s0).toArray rfl rfl (by rw[List.size_toArray,hul];exact Zbi) (Zg9.trans (by rw[List.size_toArray,hul])) (Zf4 s0) ?_)
  |(refine Za3 rfl 186 _ _ rfl (ucells s0).toArray (ucells s).toArray rfl rfl (by rw[List.size_toArray,hus];exact Zbi) (by rw[List.size_toArray,List.size_toArray,hul,hus]) (Zf4 s) ?_)
  |(refine Zgu rfl _ _ 129 rfl Tryz.underlying129 Tryz.underlying3 Tryz.underlying3 (Zor _) rfl HMa.out (i:Int) (j:Int) rfl (Zjh i (by omega)) hfz ?_)
  |(go_at_call 98;refine HCL.out.mono ?_;rintro e w2 ⟨v2,rfl,hown,hb⟩))
 go_ret2;exact⟨v2,rfl,Zan hown (by rw[Zaa];omega),Zac ((Zb _ _).alloc (Za _) _) hb⟩
theorem Zsz(T:Nat->Nat)(t p i:Nat)(d:Dsk)(w:World)(h:DiskAt w T t p d)(hf:d.failed=false)(hi:i<d.last.length):
  Calls Zw 159 #[.pointer (some ⟨p,0,none⟩),O Z i] w (ReadPost w (d.cur i)):=by
 unfold Dsk.cur;cases hw:waits d.cache (i:Int)with
 |none=>
  have:=Zix T t p i d w h hf hi hw;simpa [Zi,hi]using this
 |some s=>exact Ziu T t p i d w h hf hi s hw
end Go.Proofs.YtmemlkmnhcealaaGreat
