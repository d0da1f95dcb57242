
/- The ways of a lift: changed, grown, shortened. -/
import Derived.Test.YtmemlkmnhcealaaGreatMrg21
set_option linter.unusedVariables false
set_option maxRecDepth 100000
set_option maxHeartbeats 4000000
set_option linter.unnecessarySimpa false
namespace Go.Proofs.YtmemlkmnhcealaaGreat
open Value renaming int→O,slice→Zt
open IntKind renaming i64→Z
open Go.RowKit
open Lib(hid)
variable {cs:Array Value} {t:TypeId} {w:World}
theorem Zkl(v:Value)(L:List PL)(B i j:Nat)(w:World)(h:WayRow w B v L)(hi:i<L.length)(hj:j<L.length)(hn:L.length≤1000000):
  Calls Tryz.prog 327 #[v,O Z i,O Z j] w fun e w'=>e=.returned (.tuple #[])/\WayRow w' B v (swapL L i j)/\Chg (fun k=>v.ownBlock=some k) w w':=by
 obtain⟨g,cap,rfl,hB,hg,hc,hfz⟩:=h.cells (by omega);obtain⟨c1,c2⟩:=hc i hi;obtain⟨d1,d2⟩:=hc j hj;have f1:=hfz (i*2);have f2:=hfz (i*2+1);have f3:=hfz (j*2);have f4:=hfz (j*2+1);have HS:=hid (h.swap i j hi hj);clear h hc hfz;generalize L[i].1=x1 at*;generalize L[i].2=x2 at*;generalize L[j].1=y1 at*;generalize L[j].2=y2 at*;have hself:∀(W:World) (a:Nat) (u u':Value),W.cell? ⟨g,a,none⟩=some u'->(W.setCell ⟨g,a,none⟩ u).cell? ⟨g,a,none⟩=some u:=fun W a u u' h=>World.cell?_setCell_same W _ _ h
 have hoth:∀(W:World) (a c:Nat) (u:Value),a≠c->(W.setCell ⟨g,a,none⟩ u).cell? ⟨g,c,none⟩=W.cell? ⟨g,c,none⟩:=fun W a c u h=>World.cell?_setCell_other W _ _ _ (fun e=>h (by simpa using e))
 have q1:(w.setCell ⟨g,i*2,none⟩ (O Z y1)).cell? ⟨g,j*2,none⟩=some (O Z y1):=by
  by_cases e:i=j
  ·subst e;exact hself _ _ _ _ c1
  ·rw[hoth _ _ _ _ (by omega)];exact d1
 have q2:((w.setCell ⟨g,i*2,none⟩ (O Z y1)).setCell ⟨g,i*2+1,none⟩ (O Z y2)).cell? ⟨g,j*2+1,none⟩=some (O Z y2):=by
  by_cases e:i=j
  ·subst e;exact hself _ _ _ _ (by rw[hoth _ _ _ _ (by omega)];exact c2)
  ·rw[hoth _ _ _ _ (by omega),hoth _ _ _ _ (by omega)];exact d2
 clear hself hoth;go_enter Tryz.func327,Tryz.ntmps327;go_region;go_end0;refine⟨rfl,HS.out,?_⟩;show Chg (fun k=>some g=some k) w _
 exact(Zk (S:=fun k=>some g=some k) (Zk (S:=fun k=>some g=some k) (Zk (S:=fun k=>some g=some k) (Zk (S:=fun k=>some g=some k) (Zl _ _) ⟨g,i*2,none⟩ (.inl rfl) _) ⟨g,i*2+1,none⟩ (.inl rfl) _) ⟨g,j*2,none⟩ (.inl rfl) _) ⟨g,j*2+1,none⟩ (.inl rfl) _).drew
theorem Zdx{P:Program}{o:Oper}{a:Act}{K:Act->World->Prop}{Q:Exit->Act->World->Prop}(s x:Operand)(t e:TypeId)(sz bytes:Nat)
  (ho:o.op=.call {callee:=.builtin .append,args:= #[s,x],argTypes:= #[t,t]}) (hT:SliceOf P t e sz bytes)
  (B:Nat) (v:Value) (n:Nat) (xs:List Value) (hs:a.eval s=v) (hown:w.ownsRow B e sz v n xs)
  (ad:Addr) (m c:Nat) (news:List Value) (hx:a.eval x=Zt (some ad) m c) (hl:news.length=m*sz) (hnews:∀j u,news[j]?=some u->w.cell? (ad.add j)=some u) (h1:∀u∈news,u.oneCell'=true)
  (h63:n+m≤maxLen) (hbytes:(n+m)*bytes≤140737488355328) (hbase:B≤w.heap.size) (hm:0<m)
  (h:∀v' w',w'.ownsRow B e sz v' (n+m) (xs++news)->(v'.ownBlock=v.ownBlock\/v'.ownBlock=some w.heap.size)->Chg (fun k=>v.ownBlock=some k) w w'->K (a.put o.dst v') w'):
  o.wp P a w K Q:=by
 obtain⟨v',w',hr,h2,h3,h4,h5⟩:=Zbj (P:=P) w B t o.type e sz bytes hT v n xs hown ad m c news hl hnews h1 h63 hbytes hbase hm;unfold Oper.wp execOp;simp only [ho,resolve,invoke,builtin,Sem.run_bind,Sem.run_pure,Result.andThen_ok,List.map_toArray,List.map_cons,List.map_nil,hs,hx,hr];exact h v' w' h2 h3 h4
theorem Zu7(W:World)(x y:Value)(t:TypeId):∀j u,[x,y][j]?=some u->(W.alloc (.cells #[x,y] t)).cell? ((⟨W.heap.size,0,none⟩:Addr).add j)=some u:=by
 intro j u hj;rw[Go.WideShapes.add_plain,Nat.zero_add,(At.new W #[x,y] t).cell j,List.getElem?_toArray];exact hj
theorem Zup(v:Value)(L:List PL)(B lp o:Nat)(x y:Int)(w:World)(h:WayRow w B v L)(hB:B≤w.heap.size)(hn:L.length≤1000000)(ha:At w lp cs t)(ht:318≠t)(hv:cs[o]?=some v):
  Calls Tryz.prog 329 #[.pointer (some ⟨lp,o,none⟩),.iface 318 (.agg #[O Z x,O Z y])] w fun e w'=>e=.returned (.tuple #[])/\∃v',WayRow w' B v' (L++ [(x,y)])/\At w' lp (cs.setIfInBounds o v') t/\(∀g,v'.ownBlock=some g->v.ownBlock=some g\/w.heap.size≤g)/\Chg (fun k=>k=lp\/v.ownBlock=some k) w w':=by
 obtain⟨a,c,rfl⟩:=Zab h;have c0:w.cell? ⟨lp,o,none⟩=some (Zt a L.length c):=(ha.cell o).trans hv;have HC:Hid (∀W,Chg (fun k=>False) w W->W.cell? ⟨lp,o,none⟩=some (Zt a L.length c)):=fun W hc=>(hc.cell (p:=⟨lp,o,none⟩) ha.lt (fun h=>h)).trans c0
 have H:=hid h;have HA:=hid ha;have hlt:=ha.lt;clear h ha;go_enter Tryz.func329,Tryz.ntmps329;have HD0:Hid (WayRow w.drew B (Zt a L.length c) L):=H.out;have c1:w.drew.cell? ⟨lp,o,none⟩=some (Zt a L.length c):=c0;have c2:∀x,(w.alloc x).drew.cell? ⟨lp,o,none⟩=some (Zt a L.length c):=fun x=>(((Zb w.heap.size w).alloc (Za _) x).cell (p:=⟨lp,o,none⟩) hlt).trans c0
 have TA:∀W,(Instr.typeAssert (.iface 318 (.agg #[O Z x,O Z y])) 20 318 false).run Tryz.prog W=.ok (.agg #[O Z x,O Z y]) W:=fun W=>by kernel_rfl
 have HEND:Hid (∀(w10:World) (v':Value),Chg (fun k=>(Value.slice a L.length c).ownBlock=some k) w w10->At w10 lp cs t->w10.ownsRow B 318 2 v' (L.length+1) (wayL L++ [O Z x,O Z y])->(v'.ownBlock=(Value.slice a L.length c).ownBlock\/v'.ownBlock=some (w.heap.size+1))->
   ∃v'',WayRow (w10.setCell ⟨lp,o,none⟩ v') B v'' (L++ [(x,y)])/\At (w10.setCell ⟨lp,o,none⟩ v') lp (cs.setIfInBounds o v'') t/\(∀g,v''.ownBlock=some g->(Value.slice a L.length c).ownBlock=some g\/w.heap.size≤g)/\Chg (fun k=>k=lp\/(Value.slice a L.length c).ownBlock=some k) w (w10.setCell ⟨lp,o,none⟩ v')):=fun w10 v' h1 h2 h3 h4=>by
  refine⟨v',?_,h2.set o v',fun g hg=> ?_,(h1.mono fun k hk=>.inr hk).setCell ⟨lp,o,none⟩ (.inl (.inl rfl)) v'⟩;rotate_left
  ·rcases h4 with h4|h4
   ·exact .inl (h4 ▸ hg)
   ·rw[h4]at hg
    simp only [Zg]at hg;exact .inr (by omega)
  unfold WayRow;rw[Zo,Zhp];exact Zad h3 (Zk (S:=fun k=>k=lp) (Zl _ _) ⟨lp,o,none⟩ (.inl rfl) v') (fun g hg e=>Za4 h3 h2 ht (by rw[hg,e]))
 refine wp_region_noPanic ?_;refine wp_region_held_drew (S:=fun w'=>True) (by kernel_rfl) trivial (fun hHeld=> ?_);refine Zq (i:=0) (v:=(.pointer (some ⟨lp,o,none⟩))) rfl (by kernel_rfl) (by kernel_rfl) (by kernel_rfl) (fun _ _ _ h=>h) (Or.inl ⟨by rfl,fun w hSw=>by go_simp⟩) trivial ?_;try simp only [Act.put,List.setIfInBounds_toArray]
 refine Zq (i:=1) (v:=(.pointer (some ⟨lp,o,none⟩))) rfl (by kernel_rfl) (by kernel_rfl) (by kernel_rfl) (fun _ _ _ h=>h) (Or.inl ⟨by rfl,fun w hSw=>by go_simp⟩) trivial ?_;try simp only [Act.put]
 refine Zq (i:=2) (v:=(.pointer (some ⟨lp,o,none⟩))) rfl (by kernel_rfl) (by kernel_rfl) (by kernel_rfl) (fun _ _ _ h=>h) (Or.inl ⟨by rfl,fun w hSw=>by go_simp⟩) trivial ?_;try simp only [Act.put]
 refine Zq (i:=4) (v:=(.iface 318 (.agg #[O Z x,O Z y]))) rfl (by kernel_rfl) (by kernel_rfl) (by kernel_rfl) (fun _ _ _ h=>h) (Or.inl ⟨by rfl,fun w hSw=>by go_simp⟩) trivial ?_;try simp only [Act.put]
 refine Zq (i:=5) (v:=(.agg #[O Z x,O Z y])) rfl (by kernel_rfl) (by kernel_rfl) (by kernel_rfl) (fun _ _ _ h=>h) (Or.inl ⟨by rfl,fun w hSw=>by go_simp⟩) trivial ?_;try simp only [Act.put]
 refine wpAnyH_ready (rs := [3, 6]) (by kernel_rfl) (by simp) ?_; refine AllReadyH.cons (o := { dst := some 7, op := Op.load 314 (Operand.tmp 6), type := 314, pos := "lift.go:26", after := #[{ on := 2, ground := Ground.data }], guard := none }) rfl (fun K hK => ?_) (AllReadyH.cons (o := { dst := some 10, op := Op.buildSlice 314 1 #[(0, Operand.tmp 9)], type := 314, pos := "lift.go:26", after := #[{ on := 5, ground := Ground.data }], guard := none }) rfl (fun K hK => ?_) AllReadyH.nil)
 focus
  go_simp
  refine hK.out _ _ trivial (fun hHeld=> ?_)
  clear hK K
  try simp only [Act.put,List.setIfInBounds_toArray,List.set_cons_zero,List.set_cons_succ]
  refine wpAnyH_ready (rs := [6]) (by kernel_rfl) (by simp) ?_
  refine AllReadyH.cons (o := { dst := some 10, op := Op.buildSlice 314 1 #[(0, Operand.tmp 9)], type := 314, pos := "lift.go:26", after := #[{ on := 5, ground := Ground.data }], guard := none }) rfl (fun K hK => ?_) AllReadyH.nil
 rotate_left
 focus
  go_simp
  refine hK.out _ _ trivial (fun hHeld=> ?_)
  clear hK K
  try simp only [Act.put,List.setIfInBounds_toArray,List.set_cons_zero,List.set_cons_succ]
  refine wpAnyH_ready (rs := [3]) (by kernel_rfl) (by simp) ?_
  refine AllReadyH.cons (o := { dst := some 7, op := Op.load 314 (Operand.tmp 6), type := 314, pos := "lift.go:26", after := #[{ on := 2, ground := Ground.data }], guard := none }) rfl (fun K hK => ?_) AllReadyH.nil
 rotate_left
 all_goals
  go_simp
  refine hK.out _ _ trivial (fun hHeld => ?_)
  clear hK K
  try simp only [Act.put, List.setIfInBounds_toArray, List.set_cons_zero, List.set_cons_succ]
  refine wpAnyH_ready (rs := [7]) (by kernel_rfl) (by simp) ?_
  refine AllReadyH.cons (o := { dst := some 11, op := Op.call { callee := Callee.builtin Builtin.append, args := #[Operand.tmp 7, Operand.tmp 10], argTypes := #[314, 314] }, type := 314, pos := "lift.go:26", after := #[{ on := 3, ground := Ground.data }, { on := 6, ground := Ground.data }], guard := none }) rfl (fun K hK => ?_) AllReadyH.nil
  rw [Zf (by rfl)]
  refine Zdx _ _ 314 318 2 16 rfl Zli B (Zt a L.length c) L.length _ rfl (HD0.out.alloc (.cells #[O Z x, O Z y] 318)) _ 1 1 [O Z x, O Z y] rfl rfl (Zu7 _ _ _ _) (by intro u hu; simp at hu; rcases hu with rfl | rfl <;> rfl) (by unfold maxLen; omega) (by omega) (by show B ≤ (w.alloc _).heap.size; rw [Zaa]; omega) (by omega) ?_; intro v' w10 hrow10 hvb10 hc10; have HC10 : Hid (Chg (fun k => (Value.slice a L.length c).ownBlock = some k) w w10) := ((Zm ((Zb w.heap.size w).alloc (Za _) (.cells #[O Z x, O Z y] 318)) _).drew.trans hc10); have HA10 : Hid (At w10 lp cs t) := HA.out.mod HC10.out (Za4 H.out HA.out ht); have c3 : w10.cell? ⟨lp, o, none⟩ = some (Zt a L.length c) := (HA10.out.cell o).trans hv; have f3 := HA10.out.free o; have HR10 := hid hrow10; have HV10 := hid hvb10; obtain ⟨va5, vc5, rfl⟩ := Zab hrow10; clear hrow10 hvb10 hc10; refine hK.out _ _ trivial (fun hHeld => ?_); clear hK K; try simp only [Act.put, List.setIfInBounds_toArray, List.set_cons_zero, List.set_cons_succ]
  refine Zq (i:=8) (v:=(.pointer (some ⟨lp,o,none⟩))) rfl (by kernel_rfl) (by kernel_rfl) (by kernel_rfl) (fun _ _ _ h=>h) (Or.inl ⟨by rfl,fun w hSw=>by go_simp⟩) trivial ?_
  try simp only [Act.put,List.setIfInBounds_toArray]
  refine wpAnyH_ready (rs := [9]) (by kernel_rfl) (by simp) ?_
  refine AllReadyH.cons (o := { dst := none, op := Op.store 314 (Operand.tmp 12) (Operand.tmp 11), type := 0, pos := "lift.go:26", after := #[{ on := 8, ground := Ground.data }, { on := 7, ground := Ground.data }, { on := 7, ground := Ground.chain }, { on := 0, ground := Ground.phase }, { on := 1, ground := Ground.phase }, { on := 2, ground := Ground.phase }, { on := 3, ground := Ground.phase }, { on := 4, ground := Ground.phase }, { on := 5, ground := Ground.phase }, { on := 6, ground := Ground.phase }, { on := 7, ground := Ground.phase }], guard := none }) rfl (fun K hK => ?_) AllReadyH.nil
  go_simp
  refine hK.out _ _ trivial (fun hHeld => ?_)
  clear hK K
  try simp only [Act.put, List.setIfInBounds_toArray, List.set_cons_zero, List.set_cons_succ]
  refine wpAnyH_done (by kernel_rfl) ?_ _
  refine NoPanic.normal ?_
  go_end0
  exact⟨rfl,HEND.out w10 _ HC10.out HA10.out HR10.out (by have:=HV10.out;rw[show(w.alloc (.cells #[O Z x,O Z y] 318)).drew.heap.size=w.heap.size+1 from Zaa _ _]at this;exact this)⟩
theorem WayRow.shrink{B g n cap:Nat}{L:List PL}{p:PL}(h:WayRow w B (Zt (some ⟨g,0,none⟩) n cap) (L++ [p])):WayRow w B (Zt (some ⟨g,0,none⟩) L.length cap) L:=by
 obtain⟨h1,h2⟩:=h;rcases h2 with ⟨h2,-⟩|⟨g',cap',cur,e,hb,hg,hc1,hc2,hs,ht⟩
 ·cases h2
 ·simp only [Zn,Zg,Addr.mk.injEq]at e
  obtain⟨⟨rfl,-,-⟩,-,rfl⟩:=e;have e1:(L++ [p]).length=L.length+1:=by simp
  rw[e1]at hc1 ht;refine⟨Zbz L,.inr ⟨g,cap,cur,rfl,hb,hg,by omega,hc2,hs,?_⟩⟩;have e2:=congrArg (List.take (L.length*2)) ht;rw[List.take_take,Nat.min_eq_left (by omega),Zry]at e2;rw[e2];simp
theorem Zv4(v:Value)(L:List PL)(B lp o:Nat)(x y:Int)(w:World)(h:WayRow w B v (L++ [(x,y)]))(hB:B≤w.heap.size)(hn:L.length≤1000000)(ha:At w lp cs t)(ht:318≠t)(hv:cs[o]?=some v):
  Calls Tryz.prog 328 #[.pointer (some ⟨lp,o,none⟩)] w fun e w'=>e=.returned (.iface 318 (.agg #[O Z x,O Z y]))/\∃v',WayRow w' B v' L/\At w' lp (cs.setIfInBounds o v') t/\v'.ownBlock=v.ownBlock/\Chg (fun k=>k=lp) w w':=by
 obtain⟨g,cap,rfl,hBg,hg,hc,hfz⟩:=h.cells (by simp);have e1:(L++ [(x,y)]).length=L.length+1:=by simp
 have hcap:L.length+1≤cap:=by
  rcases h.2 with ⟨h2,-⟩|⟨g',cap',cur,e,-,-,hc1,-⟩
  ·cases h2
  ·simp only [Zn]at e
   rw[e.2.2,<-e1];exact hc1
 obtain⟨d1,d2⟩:=hc L.length (by simp);rw[List.getElem_append_right (by omega)]at d1 d2;simp only [Nat.sub_self,List.getElem_singleton]at d1 d2;have c0:w.cell? ⟨lp,o,none⟩=some (Zt (some ⟨g,0,none⟩) (L.length+1) cap):=by rw[<-e1];exact(ha.cell o).trans hv
 have f0:=ha.free o;have hlt:=ha.lt;have H:=hid h;have HA:=hid ha;have h1:IntKind.i64.wrap (((L.length+1:Nat):Int)-1)=(L.length:Int):=by rw[IntKind.wrap_i64];omega
 clear h ha hc hfz;go_enter Tryz.func328,Tryz.ntmps328;go_wp2;go_region;have k0:((w.alloc (.cells #[O Z x,O Z y] 318)).drew).cell? ⟨lp,o,none⟩=some (Zt (some ⟨g,0,none⟩) (L.length+1) cap):=(((Zb w.heap.size w).alloc (Za _) _).cell (p:=⟨lp,o,none⟩) hlt).trans c0;go_wp2;go_region;go_wp2;go_ret;have hs:=(WayRow.shrink H.out);have hch:Chg (fun k=>k=lp) w ((w.setCell ⟨lp,o,none⟩ (Zt (some ⟨g,0,none⟩) L.length cap)).alloc (.cells #[O Z x,O Z y] 318)):=(Zk (S:=fun k=>k=lp) (Zl _ _) ⟨lp,o,none⟩ (.inl rfl) _).alloc _;refine⟨rfl,Zt (some ⟨g,0,none⟩) L.length cap,?_,?_,rfl,hch.drew.drew⟩
 ·exact Zad hs hch.drew.drew (fun g' hg' (e:g'=lp)=>Za4 hs HA.out ht (by rw[hg',e]))
 ·exact(HA.out.set o _).alloc _
end Go.Proofs.YtmemlkmnhcealaaGreat
