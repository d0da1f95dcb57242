
/- Blocks of cells, known whole: what a load, a store, a new block and a call leave of them. No program in sight. -/
import Derived.WalkKit
import Derived.Deep.WholeRow
import Derived.Deep.MidRow
import Derived.OneCell
import Derived.OwnWalk
import Derived.WalkSmall
set_option linter.unusedVariables false
set_option maxRecDepth 100000
set_option maxHeartbeats 1000000
namespace Go
open Go.RowKit
def At(w:World)(g:Nat)(cs:Array Value)(t:TypeId):Prop:=w.heap[g]?=some (.cells cs t (0,0))
namespace At
variable {w:World} {g:Nat} {cs:Array Value} {t:TypeId}
theorem lt(h:At w g cs t):g<w.heap.size:=lt_of_block h
theorem cell(h:At w g cs t)(i:Nat):w.cell? ⟨g,i,none⟩=cs[i]?:=cell_of_row w g i cs t _ h
theorem free(h:At w g cs t)(i:Nat):w.frozen? ⟨g,i,none⟩=false:=frozen_of_row w g i cs t h
theorem new(w:World)(cs:Array Value)(t:TypeId):At (w.alloc (.cells cs t)) w.heap.size cs t:=heap_alloc_new w _
theorem alloc(h:At w g cs t)(o:Obj):At (w.alloc o) g cs t:=(Below.heap_alloc w o g h.lt).trans h
theorem drew(h:At w g cs t):At w.drew g cs t:=h
theorem set(h:At w g cs t)(i:Nat)(v:Value):At (w.setCell ⟨g,i,none⟩ v) g (cs.setIfInBounds i v) t:=heap_setCell_same w g i cs t v h
theorem setOther(h:At w g cs t){a:Addr}(ha:g≠a.block)(v:Value):At (w.setCell a v) g cs t:=(heap_setCell_other w a g v ha).trans h
theorem below{B:Nat}{w':World}(h:At w g cs t)(hb:Below B w w')(hg:g<B):At w' g cs t:=(hb.block g hg).trans h
theorem row(h:At w g cs t)(cs':Array Value):At (w.setRow g cs') g cs' t:=setRow_heap w g cs cs' t _ h
end At
theorem Zaa(w:World)(o:Obj):(w.alloc o).heap.size=w.heap.size+1:=by
 show(w.heap.push o).size=_
 simp
theorem Za6(w:World)(a:Addr)(v:Value):(w.setCell a v).heap.size=w.heap.size:=by
 simp[World.setCell]
theorem At.new2(w:World)(A:Obj)(cs:Array Value)(t:TypeId):At ((w.alloc A).alloc (.cells cs t)) (w.heap.size+1) cs t:=by
 rw[<-Zaa w A];exact At.new _ _ _
theorem At.new3(w:World)(A B:Obj)(cs:Array Value)(t:TypeId):At (((w.alloc A).alloc B).alloc (.cells cs t)) (w.heap.size+2) cs t:=by
 have h:=At.new ((w.alloc A).alloc B) cs t;rw[Zaa,Zaa]at h;exact h
theorem Zac{a b c:World}(h:Below a.heap.size a b)(h':Below b.heap.size b c):Below a.heap.size a c:=h.trans (h'.mono h.size)
section
variable {P:Program}
theorem Zbv{ops:Array Oper}{rest:List Oper}{o:Oper}{a:Act}{w:World}{Q:Exit->Act->World->Prop}(hgd:o.guard=none)(ty:TypeId)(x y:Operand)(ho:o.op=.store ty x y)
  (g:Nat) (hx:a.eval x=.pointer (some ⟨g,0,none⟩)) (cells:Array Value) (hy:a.eval y=.agg cells) (t:TypeId) (old:Array Value) (hg:At w g old t)
  (hi:(P.info? ty).map (·.size)=some cells.size) (hs:old.size=cells.size) (h1:cells.all (·.oneCell')=true)
  (h:wpList P ops Q rest (a.put o.dst undef) (w.setRow g cells)):wpList P ops Q (o::rest) a w:=
 wpList_plain hgd fun _ hK=>by
  unfold Oper.wp execOp;simp only [ho,hx,hy,Instr.storeAt,Instr.sureAddr,Sem.run_bind,Sem.run_pure,Result.andThen_ok,run_storeVar_row w g t ty old cells hg hi hs h1];exact hK _ _ h
end
theorem Zfi(w:World)(A:Obj)(c c':Array Value)(t:TypeId):((w.alloc A).alloc (.cells c t)).setRow (w.heap.size+1) c'=(w.alloc A).alloc (.cells c' t):=by
 rw[<-Zaa w A,World.setRow_alloc_new]
theorem Zlu(w:World)(A B:Obj)(b o:Nat)(hb:b<w.heap.size):((w.alloc A).alloc B).cell? ⟨b,o,none⟩=w.cell? ⟨b,o,none⟩:=by
 have h1:b<(w.alloc A).heap.size:=by rw[Zaa];omega
 rw[World.cell?_alloc_lt _ _ (a:=⟨b,o,none⟩) h1,World.cell?_alloc_lt _ _ (a:=⟨b,o,none⟩) hb]
structure Chg (S:Nat->Prop) (w w':World):Prop where
 os:w'.os=w.os
 tape:w'.tape=w.tape
 output:w'.output=w.output
 size:w.heap.size≤w'.heap.size
 block:∀k,k<w.heap.size->¬S k->w'.heap[k]?=w.heap[k]?
namespace Chg
variable {S T:Nat->Prop} {a b c:World}
theorem refl(S:Nat->Prop)(w:World):Chg S w w:=⟨rfl,rfl,rfl,Nat.le_refl _,fun _ _ _=>rfl⟩
theorem trans(h:Chg S a b)(h':Chg S b c):Chg S a c:=
 ⟨h'.os.trans h.os,h'.tape.trans h.tape,h'.output.trans h.output,Nat.le_trans h.size h'.size,fun k hk hs=>(h'.block k (Nat.lt_of_lt_of_le hk h.size) hs).trans (h.block k hk hs)⟩
theorem mono(h:Chg S a b)(hST:∀k,S k->T k):Chg T a b:=⟨h.os,h.tape,h.output,h.size,fun k hk hs=>h.block k hk fun hk'=>hs (hST k hk')⟩
theorem alloc(h:Chg S a b)(o:Obj):Chg S a (b.alloc o):=
 h.trans ⟨rfl,rfl,rfl,by rw[Zaa];omega,fun k hk _=>Below.heap_alloc _ _ _ hk⟩
theorem setCell(h:Chg S a b)(p:Addr)(hp:S p.block\/a.heap.size≤p.block)(v:Value):Chg S a (b.setCell p v):=
 ⟨h.os,h.tape,h.output,by rw[Za6];exact h.size,fun k hk hs=>by
  rw[heap_setCell_other _ _ _ _ (fun e=>by subst e;rcases hp with hp|hp;exact hs hp;omega)]
  exact h.block k hk hs⟩
theorem drew(h:Chg S a b):Chg S a b.drew:=⟨h.os,h.tape,h.output,h.size,h.block⟩
theorem ofBelow(h:Below a.heap.size a b)(S:Nat->Prop):Chg S a b:=⟨h.os,h.tape,h.output,h.size,fun k hk _=>h.block k hk⟩
theorem ofGrown{row:Option Nat}(h:a.grownBy b row)(hr:∀k,row=some k->S k\/a.heap.size≤k):Chg S a b:=
 ⟨h.os,h.tape,h.output,h.size,fun k hk hs=>h.block k hk fun e=>by rcases hr k e.symm with h|h;exact hs h;omega⟩
theorem below{B:Nat}(h:Chg S a b)(hB:∀k,k<B->k<a.heap.size/\¬S k):Below B a b:=⟨h.os,h.tape,h.output,h.size,fun k hk=>h.block k (hB k hk).1 (hB k hk).2⟩
theorem own{w:World}(hw:Below w.heap.size w a)(h:Chg S a b)(hS:∀k,S k->w.heap.size≤k):Below w.heap.size w b:=
 hw.trans (h.below fun k hk=>⟨Nat.lt_of_lt_of_le hk hw.size,fun hs=>by have:=hS k hs;omega⟩)
theorem cell(h:Chg S a b){p:Addr}(hp:p.block<a.heap.size)(hS:¬S p.block):b.cell? p=a.cell? p:=World.cell?_of_block (h.block p.block hp hS)
end Chg
theorem At.mod{S:Nat->Prop}{w w':World}{g:Nat}{cs:Array Value}{t:TypeId}(h:At w g cs t)(hm:Chg S w w')(hS:¬S g):At w' g cs t:=(hm.block g h.lt hS).trans h
def SliceOf(P:Program)(t e:TypeId)(size bytes:Nat):Prop:=
 P.underlying t=some (.slice e)/\0<size/\∃i z,P.info? e=some i/\i.zero=some z/\i.size=size/\i.bytes=bytes/\z.cells.size=size
theorem SliceOf.mk'{P:Program}{t e:TypeId}{size bytes:Nat}{z:Value}(h1:P.underlying t=some (.slice e))(h0:0<size)
  (h2:(P.info? e).map (fun i=>(i.zero,i.size,i.bytes))=some (some z,size,bytes)) (h3:z.cells.size=size):SliceOf P t e size bytes:=by
 cases hq:P.info? e with
 |none=>simp[hq]at h2
 |some i=>
  simp[hq]at h2;exact⟨h1,h0,i,z,hq,h2.1,h2.2.1,h2.2.2,h3⟩
section
variable {P:Program}
theorem Zay{ops:Array Oper}{rest:List Oper}{o:Oper}{a:Act}{Q:Exit->Act->World->Prop}{W:World}(hgd:o.guard=none)(s x:Operand)(t e:TypeId)(bytes:Nat)
  (ho:o.op=.call {callee:=.builtin .append,args:= #[s,x],argTypes:= #[t,t]}) (hT:SliceOf P t e 1 bytes)
  (base:Nat) (v:Value) (n:Nat) (xs:List Value) (hs:a.eval s=v) (hown:W.ownsRow base e 1 v n xs) (u:Value) (hu:u.oneCell'=true)
  (hx:a.eval x=.slice (some ⟨W.heap.size,0,none⟩) 1 1) (h63:n+1≤maxLen) (hbytes:(n+1)*bytes≤140737488355328) (hbase:base≤W.heap.size)
  (h:∀v' w',w'.ownsRow base e 1 v' (n+1) (xs++ [u])->Below base W w'->W.grownBy w' v.ownBlock->wpList P ops Q rest (a.put o.dst v') w'):
  wpList P ops Q (o::rest) a (W.alloc (.cells #[u] e)):=by
 obtain⟨h1,h0,i,z,h2,h3,h4,h5,h6⟩:=hT;refine wpList_append_own _ hgd s x t ho base e i z 1 bytes h1 h2 h3 h4 h5 h6 h0 v n xs hs (hown.alloc _) ⟨W.heap.size,0,none⟩ 1 1 [u] hx rfl ?_ ?_ h63 hbytes (by rw[Zaa];omega) fun v' w' a b _=>h v' w' a
  (((Below.refl base W).alloc hbase _).grown b (by rw[Zaa];omega) (fun k hk=>(hown.lt k hk).1))
  ⟨b.os,b.tape,b.output,by have:=b.size;rw[Zaa]at this;omega,fun k hk hne=>(b.block k (by rw[Zaa];omega) hne).trans (Below.heap_alloc W _ k hk)⟩
 ·intro j u' hj
  match j with
  |0=>
   simp at hj;subst hj;have:(⟨W.heap.size,0,none⟩:Addr).add 0=⟨W.heap.size,0,none⟩:=by unfold Addr.add;split<;>simp_all
   rw[this,(At.new W #[u] e).cell 0];rfl
  |j+1=>simp at hj
 ·intro u' hu'
  simp at hu';subst hu';exact hu
end
section
variable {P:Program}
theorem Zgr{ops:Array Oper}{rest:List Oper}{o:Oper}{a:Act}{Q:Exit->Act->World->Prop}{w:World}(hg:o.guard=none)(l c:Operand)(t e:TypeId)(size bytes:Nat)
  (hop:o.op=Op.makeSlice t l c) (hT:SliceOf P t e size bytes) (kl kc:IntKind) (C:Int) (n:Nat) (hl:a.eval l=.int kl 0) (hc:a.eval c=.int kc C) (hC:C=(n:Int))
  (b2:bytes*n≤281474976710656) (b3:n≤maxLen)
  (hK:∀w',w'.ownsRow w.heap.size e size (.slice (some ⟨w.heap.size,0,none⟩) 0 n) 0 []->Below w.heap.size w w'->w.heap.size<w'.heap.size->wpList P ops Q rest (a.put o.dst (.slice (some ⟨w.heap.size,0,none⟩) 0 n)) w'):
  wpList P ops Q (o::rest) a w:=by
 obtain⟨h1,h0,i,z,h2,h3,h4,h5,h6⟩:=hT;refine wpList_make_own w hg l c t hop w.heap.size e i z size h1 h2 h3 h4 kl kc C n hl hc hC (by rw[h5];exact b2) b3 (Nat.le_refl _) fun w' hown hgr=>hK w' hown ?_ ?_
 ·exact(Below.refl _ _).grown hgr (Nat.le_refl _) (fun k hk=>by simp at hk)
 ·exact(hown.lt _ rfl).2
end
section
variable {P:Program}
end
section
variable {P:Program}
theorem Zbb{ops:Array Oper}{rest:List Oper}{o:Oper}{a:Act}{Q:Exit->Act->World->Prop}{w:World}(hg:o.guard=none)(s x:Operand)(t e:TypeId)(size bytes:Nat)
  (hop:o.op=Op.call {callee:=Callee.builtin Builtin.append,args:= #[s,x],argTypes:= #[t,t]}) (hT:SliceOf P t e size bytes)
  (base:Nat) (v:Value) (n:Nat) (xs:List Value) (hs:a.eval s=v) (hown:w.ownsRow base e size v n xs) (ao:Option Addr) (m c:Nat) (news:List Value) (hx:a.eval x=.slice ao m c) (hn:news.length=m*size)
  (hnone:ao=none->m=0/\c=0) (hc:∀ad,ao=some ad->∀j u,news[j]?=some u->w.cell? (ad.add j)=some u) (h1c:∀u∈news,u.oneCell'=true)
  (h63:n+m≤maxLen) (hbytes:(n+m)*bytes≤140737488355328) (hbase:base≤w.heap.size)
  (hK:∀v' w',w'.ownsRow base e size v' (n+m) (xs++news)->Below base w w'->w.grownBy w' v.ownBlock->wpList P ops Q rest (a.put o.dst v') w'):
  wpList P ops Q (o::rest) a w:=by
 obtain⟨h1,h0,i,z,h2,h3,h4,h5,h6⟩:=hT;cases ao with
 |some ad=>
  exact wpList_append_own w hg s x t hop base e i z size bytes h1 h2 h3 h4 h5 h6 h0 v n xs hs hown ad m c news hx hn (hc ad rfl) h1c h63 hbytes hbase
   fun v' w' ho hgr _=>hK v' w' ho ((Below.refl _ _).grown hgr hbase (fun k hk=>(hown.lt k hk).1)) hgr
 |none=>
  obtain⟨rfl,rfl⟩:=hnone rfl;have hnews:news= []:=List.eq_nil_of_length_eq_zero (by simpa using hn);subst hnews;refine wpList_plain hg fun K hK'=> ?_
  have hrun:=run_append_owned_none (P:=P) w base t o.type e i size h1 h2 _ n xs hown;unfold Oper.wp;simp[execOp,hop,resolve,invoke,builtin,hs,hx,hrun,Result.andThen];exact hK' _ _ (hK _ _ (by simpa using hown) (Below.refl _ _) (World.grownBy.refl _ _))
end
theorem Zb2{w:World}{base:Nat}{e:TypeId}{v:Value}{n:Nat}{xs:List Value}(h:w.ownsRow base e 1 v n xs)(hn:0<n):
  ∃g cap,v=.slice (some ⟨g,0,none⟩) n cap/\base≤g/\g<w.heap.size/\(∀i,i<n->w.cell? ⟨g,i,none⟩=xs[i]?)/\∀i,w.frozen? ⟨g,i,none⟩=false:=by
 obtain⟨hl,h⟩:=h;rcases h with ⟨_,h⟩|⟨g,cap,cur,hv,hb,hg,hc,_,hs,ht⟩
 ·omega
 ·refine⟨g,cap,hv,hb,lt_of_block hg,?_,fun i=>frozen_of_row w g i cur e hg⟩
  intro i hi;rw[cell_of_row w g i cur e _ hg,<-ht,List.getElem?_take,if_pos (by omega)];simp
theorem Zaf{w w':World}{base B:Nat}{e:TypeId}{size:Nat}{v:Value}{n:Nat}{xs:List Value}(h:w.ownsRow base e size v n xs)(hb:Below B w w')(hB:w.heap.size≤B):w'.ownsRow base e size v n xs:=by
 refine⟨h.1,?_⟩;rcases h.2 with hn|⟨g,cap,cur,hv,hg,hh,r⟩
 ·exact .inl hn
 ·exact .inr ⟨g,cap,cur,hv,hg,(hb.block g (Nat.lt_of_lt_of_le (lt_of_block hh) hB)).trans hh,r⟩
def Seg(w:World)(v:Value)(l:List UInt8):Prop:=
 ∃a cap,v=.slice a l.length cap/\((a=none->l.length=0/\cap=0)/\l.length≤cap)/\
  (l= []\/∃b off,a=some ⟨b,off,none⟩/\b<w.heap.size/\∀j (h:j<l.length),w.cell? ⟨b,off+j,none⟩=some (.int .u8 ((l[j].toNat:Nat):Int)))
theorem Seg.below{w w':World}{v:Value}{l:List UInt8}(h:Seg w v l)(hb:Below w.heap.size w w'):Seg w' v l:=by
 obtain⟨a,cap,hv,hn,h⟩:=h;refine⟨a,cap,hv,hn,?_⟩;rcases h with h|⟨b,off,ha,hlt,hc⟩
 ·exact .inl h
 ·exact .inr ⟨b,off,ha,Nat.lt_of_lt_of_le hlt hb.size,fun j hj=>(hb.cell (p:=⟨b,off+j,none⟩) hlt).trans (hc j hj)⟩
theorem Seg.nil(w:World):Seg w (.slice none 0 0) []:=⟨none,0,rfl,⟨fun _=>⟨rfl,rfl⟩,Nat.le_refl _⟩,.inl rfl⟩
def ucells(l:List UInt8):List Value:=l.map fun u=>Value.int .u8 ((u.toNat:Nat):Int)
theorem Za8(l:List UInt8):∀u∈ucells l,u.oneCell'=true:=by
 intro u hu;simp only [ucells,List.mem_map]at hu;obtain⟨x,_,rfl⟩:=hu;rfl
theorem Zag(l:List UInt8):(ucells l).length=l.length:=by simp[ucells]
theorem Seg.cells{w:World}{a:Option Addr}{n cap:Nat}{l:List UInt8}(h:Seg w (.slice a n cap) l):
  n=l.length/\(a=none->l.length=0/\cap=0)/\∀ad,a=some ad->∀j u,(ucells l)[j]?=some u->w.cell? (ad.add j)=some u:=by
 obtain⟨a',cap',hv,hn,h⟩:=h;simp only [Value.slice.injEq]at hv;obtain⟨rfl,rfl,rfl⟩:=hv;refine⟨rfl,hn.1,?_⟩;intro ad had j u hu;rcases h with rfl|⟨b,off,ha,_,hc⟩
 ·simp[ucells]at hu
 ·rw[ha]at had
  obtain rfl:=Option.some.inj had;have hj:j<l.length:=by
   have:=(List.getElem?_eq_some_iff.1 hu).1;simpa [ucells]using this
  rw[Addr.add_lit,hc j hj];simp[ucells,hj]at hu;rw[hu]
theorem Seg.full{w:World}{v:Value}{l:List UInt8}(h:Seg w v l)(hl:0<l.length):
  ∃b off cap,v=.slice (some ⟨b,off,none⟩) l.length cap/\b<w.heap.size/\∀j (h:j<l.length),w.cell? ⟨b,off+j,none⟩=some (.int .u8 ((l[j].toNat:Nat):Int)):=by
 obtain⟨a,cap,hv,_,h⟩:=h;rcases h with rfl|⟨b,off,rfl,hb,hc⟩
 ·simp at hl
 ·exact⟨b,off,cap,hv,hb,hc⟩
theorem Seg.le{w:World}{a:Option Addr}{n cap:Nat}{l:List UInt8}(h:Seg w (.slice a n cap) l):n≤cap:=by
 obtain⟨a',cap',hv,hn,_⟩:=h;simp only [Value.slice.injEq]at hv;omega
theorem Seg.shape{w:World}{v:Value}{l:List UInt8}(h:Seg w v l):∃a cap,v=.slice a l.length cap:=by
 obtain⟨a,cap,hv,_⟩:=h;exact⟨a,cap,hv⟩
theorem Zea{w:World}{g cap:Nat}{cs:Array Value}{t:TypeId}{l:List UInt8}(h:At w g cs t)(hcap:l.length≤cap)(hc:∀j (h:j<l.length),cs[j]?=some (.int .u8 ((l[j].toNat:Nat):Int))):
  Seg w (.slice (some ⟨g,0,none⟩) l.length cap) l:=
 ⟨_,_,rfl,⟨fun h=>by simp at h,hcap⟩,.inr ⟨g,0,rfl,h.lt,fun j hj=>by rw[h.cell,Nat.zero_add];exact hc j hj⟩⟩
def nats(l:List UInt8):List Nat:=l.map UInt8.toNat
theorem Zs7(l:List UInt8)(k:Nat)(h:k<l.length):nats (l.take (k+1))=nats (l.take k)++ [l[k].toNat]:=by
 unfold nats;rw[List.take_succ_eq_append_getElem h,List.map_append];rfl
section
variable {P:Program}
end
theorem Zn6{k:IntKind}{a b:Int}(h:a=b):Ending.returned (.int k a)=.returned (.int k b):=by rw[h]
theorem Zls{k:IntKind}{a b:Int}(h:a=b):Value.int k a=Value.int k b:=by rw[h]
end Go
namespace Go
abbrev Za:=@Nat.le_refl
abbrev Zb:=@RowKit.Below.refl
abbrev Zc:=@Nat.le_trans
abbrev Zd:=@Nat.lt_of_lt_of_le
abbrev Ze:=@if_neg
abbrev Zf:=@if_pos
abbrev Zg:=@Option.some.injEq
abbrev Zh:=@List.getElem?_eq_getElem
abbrev Zi:=@List.getD_eq_getElem?_getD
abbrev Zj:=@List.getElem_mem
abbrev Zk:=@Chg.setCell
abbrev Zl:=@Chg.refl
abbrev Zm:=@Chg.ofBelow
abbrev Zn:=@Value.slice.injEq
abbrev Zo:=@List.length_append
abbrev Zp:=@List.length_map
abbrev Zq:=@wpAnyH_take
theorem Zx{α:Type}:(∀(l:List α)(i:Nat)(a:α),l.toArray.setIfInBounds i a=(l.set i a).toArray)/\(∀(a b:α)(l:List α),(a::l).set 0 b=b::l)/\(∀(a b:α)(l:List α)(i:Nat),(a::l).set (i+1) b=a::l.set i b)/\(∀(l:List α)(i:Nat)(h:i<l.toArray.size),l.toArray[i]'h=l[i]'(by simpa using h))/\(∀(a:α)(l:List α)(i:Nat)(h:i+1<(a::l).length),(a::l)[i+1]'h=l[i]'(Nat.lt_of_succ_lt_succ h))/\∀(a:α)(l:List α)(h:0<(a::l).length),(a::l)[0]'h=a:=
 ⟨fun _ _ _=>by simp,fun _ _ _=>rfl,fun _ _ _ _=>rfl,fun _ _ _=>by simp,fun _ _ _ _=>rfl,fun _ _ _=>rfl⟩
end Go
