
/- Several texts in one: PlnG, PlnH, PlnJ. -/
import Derived.Test.YtmemlkmnhcealaaGreatMrg15
set_option linter.unusedVariables false
set_option maxRecDepth 100000
set_option maxHeartbeats 2000000
namespace Go.Proofs.YtmemlkmnhcealaaGreat
open Go.Proofs.Tryz renaming prog→Zw
open Go.RowKit Go.Sort
variable {f:Int->Option Value} {B b n:Nat} {P:Program} {H:Type} {k:TypeId} {v:Value} {w w':World}
abbrev SP:=Fin 64×Int×Option Addr×Nat×Nat
def encSP(x:SP):List Value:= [.int .i64 (x.1.val:Int),.int .i64 x.2.1,.slice x.2.2.1 x.2.2.2.1 x.2.2.2.2]
def cmpSP(x y:SP):Int:=(x.1.val:Int)-(y.1.val:Int)
theorem Ztv(x y:SP)(W:World):Calls Zw 218 #[.agg (encSP x).toArray,.agg (encSP y).toArray] W fun e w'=>e=.returned (.int .i64 (cmpSP x y))/\∃q os',w'=Go.Sort.grow (W.drewN q) os':=by
  obtain⟨⟨a,ha⟩,b,c⟩:=x;obtain⟨⟨a',ha'⟩,b',c'⟩:=y;unfold encSP cmpSP;obtain⟨c0,c1,c2⟩:=c;obtain⟨c0',c1',c2'⟩:=c';simp only;go_enter Tryz.func218,Tryz.ntmps218;go_wp2;go_ret;exact⟨by go_num,0,_,by rw[alloc_eq_grow,alloc_eq_grow,grow_grow];rfl⟩
theorem swoSP:SWO (ltOf cmpSP) where
  irrefl x:=by unfold ltOf cmpSP;simp
  trans x y z h1 h2:=by unfold ltOf cmpSP at*;simp at*;omega
  ntrans x y z h1 h2:=by unfold ltOf cmpSP at*;simp at*;omega
theorem Zpa(d:Array SP)(i c:Nat)(hi:i<d.size)(hc:c<3):(elems (fun j=>encSP d[j]!) d.size)[i*3+c]?=(encSP d[i]!)[c]?:=
  Zou (sz:=3) (fun k=>rfl) d.size i c hi hc
theorem Zgb(d:Array SP)(t:Nat)(ht:t<d.size*3):(elems (fun j=>encSP d[j]!) d.size)[t]?=some (flatK encSP 3 d)[t]! :=by
  have h1:t/3<d.size:=by omega
  have h2:t%3<3:=by omega
  have:=Zpa d (t/3) (t%3) h1 h2;rw[show t/3*3+t%3=t by omega]at this;rw[this,get_flatK _ _ _ _ ht];have hl:t%3<(encSP d[t/3]!).length:=h2;rw[Zh hl,getElem!_pos (encSP d[t/3]!) (t%3) hl]
theorem Zq3(g cap B:Nat)(d:Array SP)(w:World)(h:w.ownsRow B 167 3 (.slice (some ⟨g,0,none⟩) d.size cap) d.size (elems (fun j=>encSP d[j]!) d.size))(hsz:d.size≤100000):
    Calls Zw 217 #[.slice (some ⟨g,0,none⟩) d.size cap,.func (.func 218) #[] #[]] w fun e w'=>e=.returned (.tuple #[])/\
      ∃d':Array SP,d'.size=d.size/\d'.toList.Perm d.toList/\(∀i j,i<j->j<d.size->d'[i]!.1.val≤d'[j]!.1.val)/\
        w'.ownsRow B 167 3 (.slice (some ⟨g,0,none⟩) d.size cap) d.size (elems (fun j=>encSP d'[j]!) d.size)/\Chg (fun q=>q=g) w w':=by
  have eg:∀args w,(callFunc 218 args).run Zw w=.ok (.enter 218 args) w:=enters_of Tryz.func218 (by kernel_rfl) rfl;have hown:=h;obtain⟨hl,hh⟩:=h;rcases hh with ⟨hh,_⟩|⟨g',cap',cur,hv,hB,hg,hc1,hc2,hs,ht⟩
  · cases hh
  simp only [Zn,Zg,Addr.mk.injEq,true_and]at hv;obtain⟨⟨rfl,-⟩,rfl⟩:=hv;have hglt:g<w.heap.size:=lt_of_block hg;have hH:HoldsK encSP 3 w g 0 d:=by
    intro t ht';rw[size_flatK]at ht';have e:=Zgb d t ht';have:=hown.cells (g:=g) rfl t _ e;rw[Go.WideShapes.add_plain]at this;exact⟨this,by simp[World.frozen?,hg]⟩
  have hcon:=AnyQ.slices_SortFunc Tryz.sortPatch 3 Tryz.isAgg167 Tryz.sizeOf167 encSP (fun _=>rfl) (fun x v hv=>by simp[encSP]at hv;rcases hv with rfl|rfl|rfl<;>rfl) cmpSP swoSP 218 #[] g 0 cap d w eg (fun _ _ _ _ x y=>Ztv x y _) hH hglt (by omega);change Calls Zw 217 _ _ _ at hcon;refine hcon.mono fun e w' ⟨he,d',n,os,hp,hsd,hw⟩=>⟨he,d',hp.1,?_,fun i j hij hj=> ?_,?_,?_⟩
  · obtain⟨h1,h2,h3⟩:=hp
    have e1:d'.extract 0 d.size=d':=by rw[<-h1];simp
    have e2:d.extract 0 d.size=d:=by simp
    rw[e1,e2]at h3;exact h3
  · have:=hsd i j (Nat.zero_le _) hij hj
    unfold ltOf cmpSP at this;simp at this;omega
  · subst hw
    have hd:=hp.1;have hb:(sortWorldK encSP 3 w g 0 n d' os).heap[g]?=some (.cells (putCells id 0 (flatK encSP 3 d') cur) 167 (0,0)):=by
      unfold sortWorldK;rw[heap_grow_old _ _ (by unfold putRowK;simpa [putRow,mapBlock,Sort.ahead]using hglt)];simp[putRowK,putRow,mapBlock,Sort.ahead,Array.getElem?_modify,hg,onCells]
    refine⟨by rw[Zbp (sz:=3) (fun k=>rfl)],.inr ⟨g,cap,_,rfl,hB,hb,hc1,hc2,by simp[putCells,hs],?_⟩⟩;apply List.ext_getElem?;intro t;by_cases ht3:t<d.size*3
    · rw[List.getElem?_take_of_lt ht3,Array.getElem?_toList]
      have hcur:t<cur.size:=by
        have:=Nat.mul_le_mul_right 3 hc1;omega
      have e:=Zgb d' t (by rw[hd];exact ht3);rw[hd]at e;rw[e];simp[putCells,hcur,hd,ht3]
    · rw[List.getElem?_eq_none (by simp;omega),List.getElem?_eq_none (by rw[Zbp (sz:=3) (fun k=>rfl)];omega)]
  · subst hw
    refine⟨rfl,rfl,rfl,?_,fun q hq hne=> ?_⟩
    · unfold sortWorldK putRowK
      simp[Go.Sort.grow,putRow,mapBlock,Sort.ahead]
    · unfold sortWorldK
      rw[heap_grow_old _ _ (by unfold putRowK;simpa [putRow,mapBlock,Sort.ahead]using hq)];simp[putRowK,putRow,mapBlock,Sort.ahead,Array.getElem?_modify,Ne.symm hne]
open Go.RowKit Go.Sort Go.Maps
theorem Zo4{R:Value->Option (DataW H×List MemPlace)}{D:DataW H}(hown:w.ownsMap P k R b n D)(hk:P.underlying k=some (.int .i64))(x:Int):
    x∈intKeys D↔Go.Maps.has D (.int .i64 x)=true:=by
  obtain⟨es,rfl,hko⟩:=hown.keysOf;rw[has_eq,List.any_eq_true];show x∈es.map _↔_
  rw[List.mem_map];constructor
  · rintro ⟨p,hp,rfl⟩
    obtain⟨v,hv⟩:=hko p hp;obtain⟨a,-,ha,-⟩:=Go.Maps.keyOf_i64 hk hv;exact⟨p,hp,by rw[ha];simp[Lit.sameKey,Go.intOf]⟩
  · rintro ⟨p,hp,hs⟩
    obtain⟨v,hv⟩:=hko p hp;obtain⟨a,-,ha,-⟩:=Go.Maps.keyOf_i64 hk hv;rw[ha]at hs;exact⟨p,hp,by rw[ha];simpa [Lit.sameKey,Go.intOf]using hs⟩
theorem Zpu{R:Value->Option (DataW H×List MemPlace)}{D:DataW H}(hown:w.ownsMap P k R b n D)(hk:P.underlying k=some (.int .i64)):(intKeys D).Nodup:=by
  obtain⟨es,hD,hpw,_⟩:=hown.entries (int_keyed hk);obtain⟨es',hD',hko⟩:=hown.keysOf;obtain rfl:es=es':=by rw[hD]at hD';simpa using hD'
  subst hD;show(es.map _).Nodup
  refine List.pairwise_map.2 (hpw.imp_of_mem fun {p q} hp hq hne e=>hne ?_);obtain⟨v,hv⟩:=hko p hp;obtain⟨u,hu⟩:=hko q hq;obtain⟨a,-,ha,-⟩:=Go.Maps.keyOf_i64 hk hv;obtain⟨c,-,hc,-⟩:=Go.Maps.keyOf_i64 hk hu;rw[ha,hc]at e ⊢;simp[Go.intOf]at e;rw[e]
def KeysOfFn(f:Int->Option Value)(l:List Int):Prop:=l.Pairwise (· < ·)/\∀x,x∈l↔((Lit.int .i64 x).wf=true/\(f x).isSome=true)
theorem Zfj{D:DataW Value}(hown:w.ownsMap P k rawElem b n D)(hk:P.underlying k=some (.int .i64))
    (hf:∀z,(Lit.int .i64 z).wf=true->Go.Maps.has D (.int .i64 z)=(f z).isSome) {ss:List Int} (hp:ss.Perm (intKeys D)):KeysOfFn f (ss.mergeSort fun x y=>decide (x≤y)):=by
  have hnd:ss.Nodup:=hp.nodup_iff.2 (Zpu hown hk);have tr:∀a b c:Int,decide (a≤b)=true->decide (b≤c)=true->decide (a≤c)=true:=fun a b c h1 h2=>by simp only [decide_eq_true_eq]at*;omega
  have to:∀a b:Int,(decide (a≤b)||decide (b≤a))=true:=fun a b=>by simp only [Bool.or_eq_true,decide_eq_true_eq];omega
  have hs:=List.pairwise_mergeSort tr to ss;have hnd':(ss.mergeSort fun x y=>decide (x≤y)).Nodup:=(List.mergeSort_perm ss _).nodup_iff.2 hnd;refine⟨(hs.and hnd').imp fun {a b} h=> ?_,fun x=> ?_⟩
  · obtain⟨h1,h2⟩:=h
    simp only [decide_eq_true_eq]at h1;omega
  · rw[(List.mergeSort_perm ss _).mem_iff,hp.mem_iff]
    constructor
    · intro hx
      have hwf:=intKeys_wf hown hk x hx;exact⟨hwf,by rw[<-hf x hwf];exact(Zo4 hown hk x).1 hx⟩
    · rintro ⟨hwf,hx⟩
      rw[<-hf x hwf]at hx;exact(Zo4 hown hk x).2 hx
theorem Zi9(m:Nat):AnyZI.SortsIn Zw Tryz.sortedA_ren Fence.wide m:=
  ⟨fun blk off cap ss W hH hblk hsz => callsIn_wide.2 (AnyM.slices_Sort_int Tryz.sortInt blk off cap ss W hH hblk hsz),
   fun p cap W=>callsIn_wide.2 (AnyM.slices_Sort_int_none Tryz.sortInt p cap W)⟩
theorem Zo8(mb:Option Nat)(W:World):Calls Zw 100 #[.map mb] W fun e w'=>e=.returned (.func (.func 141) #[] #[.pointer (some ⟨W.heap.size,0,none⟩)])/\w'=W.alloc (.cells #[.map mb] 163):=
  (callsIn_wide (n:=5)).1 (AnyZI.keys_in Tryz.keysA Fence.wide 5 trivial rfl mb W)
theorem Zl3(h:w.vmap Zw 3 .i64 b n f)(hn:n≤1000000):
    Calls Zw 99 #[.func (.func 141) #[] #[.pointer (some ⟨w.heap.size,0,none⟩)]] (w.alloc (.cells #[.map (some b)] 163)) fun e w'=>
      ∃v l,e=.returned v/\KeysOfFn f l/\l.length≤n/\w'.ownsRow (w.heap.size+1) 3 1 v l.length (l.map (Value.int .i64))/\Below (w.heap.size+1) (w.alloc (.cells #[.map (some b)] 163)) w':=by
  obtain⟨D,hown,hf⟩:=h;have hsz:=hown.size_le;have hbl:=hown.lt;have hseq:SeqGives Fence.wide 2 Zw 141 #[.pointer (some ⟨w.heap.size,0,none⟩)] encZ (fun ss=>ss.Perm (intKeys D)) (Maps.size D) (w.alloc (.cells #[.map (some b)] 163)):=
    AnyZI.keys_gives (ρ := Tryz.keysA_ren) { Tryz.keysA with } Fence.wide _ trivial rfl (by omega) w.heap.size b n D _ (by simp) (by simp) (by
      obtain⟨es,clock,hb,Ft,hs,hD⟩:=hown
      exact⟨es,clock,(Below.heap_alloc _ _ b hbl).trans hb,Ft,hs,hD⟩)
  have cS:=AnyZI.sorted_in Tryz.sortedA Fence.wide 5 trivial trivial trivial trivial rfl (by omega) (Zi9 _) (enters_of Tryz.func140 (by kernel_rfl) rfl) 141 #[.pointer (some ⟨w.heap.size,0,none⟩)] trivial (enters_of Tryz.func141 (by kernel_rfl) rfl) _ _ (by unfold maxLen;omega) (by omega) _ hseq;change CallsIn _ _ Zw 99 _ _ _ at cS;refine(callsIn_wide.1 cS).mono fun e w' ⟨v,ss,he,hS,hrow,hnil,hb⟩=>⟨v,_,he,Zfj hown Tryz.underlying3 (fun z hz=>(hf z hz).1) hS,?_,?_,?_⟩
  · rw[List.length_mergeSort,hS.length_eq]
    obtain⟨es,rfl,_⟩:=hown.keysOf;simpa [intKeys,Maps.size]using hsz
  · rw[List.length_mergeSort]
    rw[Zaa]at hrow;exact hrow
  · rw[Zaa]at hb
    exact hb
theorem Zqm(mb:Option Nat)(W:World):Calls Zw 101 #[.map mb] W fun e w'=>e=.returned (.func (.func 142) #[] #[.pointer (some ⟨W.heap.size,0,none⟩)])/\w'=W.alloc (.cells #[.map mb] 164):=
  (callsIn_wide (n:=5)).1 (AnyZI.keys_in Tryz.keysB Fence.wide 5 trivial rfl mb W)
theorem Zk0(h:w.vmap Zw 3 .i64 b n f)(hn:n≤1000000):
    Calls Zw 99 #[.func (.func 142) #[] #[.pointer (some ⟨w.heap.size,0,none⟩)]] (w.alloc (.cells #[.map (some b)] 164)) fun e w'=>
      ∃v l,e=.returned v/\KeysOfFn f l/\l.length≤n/\w'.ownsRow (w.heap.size+1) 3 1 v l.length (l.map (Value.int .i64))/\Below (w.heap.size+1) (w.alloc (.cells #[.map (some b)] 164)) w':=by
  obtain⟨D,hown,hf⟩:=h;have hsz:=hown.size_le;have hbl:=hown.lt;have hseq:SeqGives Fence.wide 2 Zw 142 #[.pointer (some ⟨w.heap.size,0,none⟩)] encZ (fun ss=>ss.Perm (intKeys D)) (Maps.size D) (w.alloc (.cells #[.map (some b)] 164)):=
    AnyZI.keys_gives (ρ := Tryz.keysB_ren) { Tryz.keysB with } Fence.wide _ trivial rfl (by omega) w.heap.size b n D _ (by simp) (by simp) (by
      obtain⟨es,clock,hb,Ft,hs,hD⟩:=hown
      exact⟨es,clock,(Below.heap_alloc _ _ b hbl).trans hb,Ft,hs,hD⟩)
  have cS:=AnyZI.sorted_in Tryz.sortedA Fence.wide 5 trivial trivial trivial trivial rfl (by omega) (Zi9 _) (enters_of Tryz.func140 (by kernel_rfl) rfl) 142 #[.pointer (some ⟨w.heap.size,0,none⟩)] trivial (enters_of Tryz.func142 (by kernel_rfl) rfl) _ _ (by unfold maxLen;omega) (by omega) _ hseq;change CallsIn _ _ Zw 99 _ _ _ at cS;refine(callsIn_wide.1 cS).mono fun e w' ⟨v,ss,he,hS,hrow,hnil,hb⟩=>⟨v,_,he,Zfj hown Tryz.underlying3 (fun z hz=>(hf z hz).1) hS,?_,?_,?_⟩
  · rw[List.length_mergeSort,hS.length_eq]
    obtain⟨es,rfl,_⟩:=hown.keysOf;simpa [intKeys,Maps.size]using hsz
  · rw[List.length_mergeSort]
    rw[Zaa]at hrow;exact hrow
  · rw[Zaa]at hb
    exact hb
open Go.RowKit Go.Sort
theorem Zia{o:Oper}{a:Act}{K:Act->World->Prop}{Q:Exit->Act->World->Prop}(s x:Operand)(t e:TypeId)(sz bytes:Nat)
    (ho:o.op=.call {callee:=.builtin .append,args:= #[s,x],argTypes:= #[t,t]}) (hT:SliceOf P t e sz bytes)
    (B:Nat) (v:Value) (n:Nat) (xs:List Value) (hs:a.eval s=v) (hown:w.ownsRow B e sz v n xs)
    (ad:Addr) (m c:Nat) (news:List Value) (hx:a.eval x=.slice (some ad) m c) (hl:news.length=m*sz) (hnews:∀j u,news[j]?=some u->w.cell? (ad.add j)=some u) (h1:∀u∈news,u.oneCell'=true)
    (h63:n+m≤maxLen) (hbytes:(n+m)*bytes≤140737488355328) (hbase:B≤w.heap.size) (hm:0<m)
    (h:∀v' w',w'.ownsRow B e sz v' (n+m) (xs++news)->(v'.ownBlock=v.ownBlock\/v'.ownBlock=some w.heap.size)->Chg (fun k=>v.ownBlock=some k) w w'->K (a.put o.dst v') w'):
    o.wp P a w K Q:=by
  obtain⟨v',w',hr,h2,h3,h4,h5⟩:=Zbj (P:=P) w B t o.type e sz bytes hT v n xs hown ad m c news hl hnews h1 h63 hbytes hbase hm;unfold Oper.wp execOp;simp only [ho,resolve,invoke,builtin,Sem.run_bind,Sem.run_pure,Result.andThen_ok,List.map_toArray,List.map_cons,List.map_nil,hs,hx,hr];exact h v' w' h2 h3 h4
abbrev OP:=Pat×Value
def op0:OP:=(pat0,.slice none 0 0)
def opCells(x:OP):List Value:= [.int .i64 x.1.m,.int .i64 x.1.r,x.2]
structure ORow (w:World) (B:Nat) (v:Value) (X:List OP):Prop where
  row:w.ownsRow B 167 3 v X.length (elems (fun i=>opCells (X.getD i op0)) X.length)
  dat:∀x∈X,w.ownsRow B 5 1 x.2 128 (ucells x.1.d)
  apart:X.Pairwise fun x y=>∀g,x.2.ownBlock=some g->y.2.ownBlock≠some g
theorem ORow.nil(w:World)(B:Nat):ORow w B (.slice none 0 0) []:=⟨World.ownsRow_nil _ _ _ _,fun x hx=>by simp at hx,List.Pairwise.nil⟩
theorem ORow.mod{S:Nat->Prop}{X:List OP}(h:ORow w B v X)(hc:Chg S w w')(h1:∀g,v.ownBlock=some g->¬S g)(h2:∀x∈X,∀g,x.2.ownBlock=some g->¬S g):ORow w' B v X:=
  ⟨Zad h.row hc h1,fun x hx=>Zad (h.dat x hx) hc (h2 x hx),h.apart⟩
theorem ORow.below{X:List OP}(h:ORow w B v X)(hb:Below w.heap.size w w'):ORow w' B v X:=
  h.mod (Zm hb (fun _=>False)) (fun _ _ h=>h) (fun _ _ _ _ h=>h)
theorem ORow.lower{B':Nat}{X:List OP}(h:ORow w B v X)(hB:B'≤B):ORow w B' v X:=⟨Zan h.row hB,fun x hx=>Zan (h.dat x hx) hB,h.apart⟩
theorem Zl6(X:List OP)(x:OP):elems (fun i=>opCells ((X++ [x]).getD i op0)) (X++ [x]).length=elems (fun i=>opCells (X.getD i op0)) X.length++opCells x:=by
  rw[Zo,List.length_singleton,Zdg,Zcx (g:=fun i=>opCells (X.getD i op0))]
  · congr 1
    show opCells ((X++ [x]).getD X.length op0)=_
    rw[Zi,List.getElem?_append_right (Za _)];simp
  · intro j hj
    show opCells ((X++ [x]).getD j op0)=opCells (X.getD j op0)
    rw[Zi,List.getElem?_append_left hj,<-Zi]
theorem ORow.snoc{w5:World}{v':Value}{X:List OP}{x:OP}(h:ORow w B v X)(hc:Chg (fun g=>v.ownBlock=some g) w w5)
    (hx:w.ownsRow B 5 1 x.2 128 (ucells x.1.d)) (hap:∀y∈X,∀g,y.2.ownBlock=some g->x.2.ownBlock≠some g)
    (hrow:w5.ownsRow B 167 3 v' (X.length+1) (elems (fun i=>opCells (X.getD i op0)) X.length++opCells x)):ORow w5 B v' (X++ [x]):=by
  refine⟨?_,fun y hy=> ?_,?_⟩
  · rw[Zl6,Zo,List.length_singleton]
    exact hrow
  · rcases List.mem_append.1 hy with hy|hy
    · exact Zad (h.dat y hy) hc (fun g hg e=>Zbl (h.dat y hy) h.row (by decide) e hg)
    · obtain rfl:y=x:=by simpa using hy
      exact Zad hx hc (fun g hg e=>Zbl hx h.row (by decide) e hg)
  · rw[List.pairwise_append]
    exact ⟨h.apart, List.pairwise_singleton _ _, fun y hy z hz => by obtain rfl : z = x := by simpa using hz
                                                                     exact hap y hy⟩
theorem ORow.len{X:List OP}(h:ORow w B v X):∀x∈X,x.1.d.length=128:=fun x hx=>by
  have:=(h.dat x hx).1;rw[Zag]at this;omega
theorem ORow.pseg{X:List OP}(h:ORow w B v X)(hfew:X.length≤140737488355328):PSeg w v (X.map (·.1)):=by
  obtain⟨a,c,rfl⟩:=Zab h.row;refine⟨a,c,by rw[Zp],by rw[Zp];exact hfew,fun p hp=> ?_,?_⟩
  · obtain⟨x,hx,rfl⟩:=List.mem_map.1 hp
    have:=h.len x hx;omega
  · by_cases hl:X.length=0
    · left
      rw[List.eq_nil_of_length_eq_zero hl];rfl
    · obtain⟨g,cap,hv,hB,hg⟩:=Zas h.row (by omega)
      simp only [Zn]at hv;obtain⟨rfl,-,rfl⟩:=hv;refine .inr ⟨g,0,rfl,hg,fun j hj=> ?_⟩;rw[Zp]at hj;have e:X.getD j op0=X[j]:=by rw[Zi,Zh hj];rfl
      have c0:=Zb5 h.row (fun k=>rfl) j 0 hj (by omega);have c1:=Zb5 h.row (fun k=>rfl) j 1 hj (by omega);have c2:=Zb5 h.row (fun k=>rfl) j 2 hj (by omega);have hd:=h.dat _ (Zj hj);have hl:=h.len _ (Zj hj);rw[e]at c0 c1 c2;rw[Nat.zero_add,List.getElem_map];exact⟨by rw[show j*3=j*3+0 by omega,c0];rfl,by rw[c1];rfl,_,by rw[c2];rfl,Zao (by rw[hl];exact hd)⟩
theorem Zfr{α β:Type}{f:α->β}:∀{l:List β} {X:List α},l.Perm (X.map f)->∃X':List α,X'.Perm X/\X'.map f=l
  | [], X, h => ⟨[], by
      have:=h.length_eq
      rw[Zp]at this
      rw[List.eq_nil_of_length_eq_zero (show X.length=0 by simpa using this.symm)],rfl⟩
  |b::l,X,h=>by
    have hb:b∈X.map f:=h.mem_iff.1 List.mem_cons_self;obtain⟨a,ha,rfl⟩:=List.mem_map.1 hb;obtain⟨s,t,rfl⟩:=List.append_of_mem ha;rw[List.map_append,List.map_cons]at h;have h2:l.Perm ((s++t).map f):=by
      rw[List.map_append];exact(List.perm_cons (f a)).1 (h.trans List.perm_middle)
    obtain⟨X',h3,h4⟩:=Zfr h2;exact⟨a::X',(h3.cons a).trans List.perm_middle.symm,by rw[List.map_cons,h4]⟩
def shOf:Value->Option Addr×Nat×Nat
  | .slice a n c=>(a,n,c)
  |_=>(none,0,0)
def toSP(x:OP):SP:=(⟨x.1.m.toNat%64,Nat.mod_lt _ (by decide)⟩,x.1.r,shOf x.2)
theorem Zp4{x:OP}(h0:0≤x.1.m)(h1:x.1.m<64)(hs:∃a n c,x.2=.slice a n c):encSP (toSP x)=opCells x:=by
  obtain⟨a,n,c,hs⟩:=hs;unfold encSP toSP opCells;rw[hs];have:((x.1.m.toNat%64:Nat):Int)=x.1.m:=by omega
  simp only [this,shOf]
theorem Zsw{X:List OP}(h:ORow w B v X)(h0:0<X.length)(hsz:X.length≤100000)(hm:∀x∈X,0≤x.1.m/\x.1.m<64):
    Calls Zw 217 #[v,.func (.func 218) #[] #[]] w fun e w'=>e=.returned (.tuple #[])/\∃X':List OP,X'.Perm X/\X'.Pairwise (fun x y=>x.1.m≤y.1.m)/\ORow w' B v X'/\Chg (fun g=>v.ownBlock=some g) w w':=by
  obtain⟨g,cap,rfl,hB,hg⟩:=Zas h.row h0;have hsh:∀x∈X,∃a n c,x.2=.slice a n c:=fun x hx=>by
    obtain⟨a,c,e⟩:=Zab (h.dat x hx);exact⟨a,_,c,e⟩
  have hsize:(X.map toSP).toArray.size=X.length:=by simp
  have hel:∀(Y:List OP),(∀y∈Y,y∈X)->elems (fun j=>encSP (Y.map toSP).toArray[j]!) Y.length=elems (fun i=>opCells (Y.getD i op0)) Y.length:=fun Y hY=>Zcx fun j hj=>by
    have e1:(Y.map toSP).toArray[j]! =toSP Y[j]:=by
      rw[getElem!_pos _ _ (by simpa using hj)];simp
    have e2:Y.getD j op0=Y[j]:=by rw[Zi,Zh hj];rfl
    have hmem:=hY _ (Zj hj);show encSP (Y.map toSP).toArray[j]! =opCells (Y.getD j op0)
    rw[e1,e2];exact Zp4 (hm _ hmem).1 (hm _ hmem).2 (hsh _ hmem)
  have hrow:w.ownsRow B 167 3 (.slice (some ⟨g,0,none⟩) (X.map toSP).toArray.size cap) (X.map toSP).toArray.size (elems (fun j=>encSP (X.map toSP).toArray[j]!) (X.map toSP).toArray.size):=by
    rw[hsize,hel X (fun y h=>h)];exact h.row
  have hc:=Zq3 g cap B (X.map toSP).toArray w hrow (by rw[hsize];exact hsz);rw[hsize]at hc;refine hc.mono fun e w' ⟨he,d',hd,hp,hso,hro,hch⟩=>⟨he,?_⟩
  obtain⟨X',hX,hXd⟩:=Zfr (f:=toSP) (X:=X) (l:=d'.toList) (by simpa using hp);have hlen:X'.length=X.length:=hX.length_eq;have hin:∀y∈X',y∈X:=fun y hy=>hX.mem_iff.1 hy
  have hdd:d'=(X'.map toSP).toArray:=by rw[hXd]
  have hgc:∀q,q=g↔(Value.slice (some ⟨g,0,none⟩) X.length cap).ownBlock=some q:=fun q=>by simp[Value.ownBlock,eq_comm]
  refine⟨X',hX,?_,⟨?_,fun x hx=> ?_,?_⟩,hch.mono fun q hq=>(hgc q).1 hq⟩
  · rw[List.pairwise_iff_getElem]
    intro i j hi hj hij;have:=hso i j hij (by rw[<-hlen];exact hj);rw[hdd]at this;rw[getElem!_pos _ _ (by simpa using hi),getElem!_pos _ _ (by simpa using hj)]at this;simp only [List.getElem_toArray,List.getElem_map,toSP]at this;have h1:=hm _ (hin _ (Zj hi));have h2:=hm _ (hin _ (Zj hj));omega
  · rw[hlen]
    have:=hel X' hin;rw[hlen]at this;rw[<-this,<-hdd];exact hro
  · exact Zad (h.dat x (hin x hx)) hch (fun q hq e=>Zbl (h.dat x (hin x hx)) h.row (by decide) ((hgc q).1 e) hq)
  · exact hX.symm.pairwise h.apart (fun {x y} hxy q hq e=>hxy q e hq)
end Go.Proofs.YtmemlkmnhcealaaGreat
