/- A script of the rows' laws, as an argument brings it (printed in part by gen_rla.py). -/
import Derived.Test.YtebmephdnjccjaaGreatMrg31
import Derived.Test.YtebmephdnjccjaaGreatMrg30
set_option linter.unusedVariables false
set_option maxRecDepth 100000
set_option maxHeartbeats 1000000
namespace Go.Proofs.YtebmephdnjccjaaGreat
open Go.RowKit Go.ChangeShapes Go.WideShapes Go.ChangeAt Go.Deep
theorem pats_of_cell14 {H:Type} {enc:TypeId×Value->H} {P:Program} {W:World} {T E EB fuel:Nat} {v:Value} {x0:DataW H×List MemPlace} {f0 f1 f2:Field}
  (hT:P.underlying T=some (.slice E)) (hE:P.underlying E=some (.struct #[f0,f1,f2])) (ce:P.cellsOf E=3) (be:0<P.bytesOf E) (o0:f0.offset=0) (o1:f1.offset=1) (o2:f2.offset=2) (c0:P.cellsOf f0.type=1) (c1:P.cellsOf f1.type=1) (c2:P.cellsOf f2.type=1)
  (t0:P.underlying f0.type=some (.int .i64)) (t1:P.underlying f1.type=some (.int .i64)) (t2:P.underlying f2.type=some (.slice EB)) (tb:P.underlying EB=some (.int .u8)) (cb:P.cellsOf EB=1) (bb:P.bytesOf EB=1)
  (hf:DataW.trod enc P W 0 (fun _=>true) true fuel T [v]=some x0) (hw:∀n∈x0.1.weights P T,n≤reachBytes):∃us,PSeg W v us:=by
 rcases Go.Deep.open_slice hT hf with ⟨hcs,_⟩|⟨x,len,cap,m,n,D,Pl,hcs,_,hl,hm,hmm,hd,hx⟩
 ·simp only [List.cons.injEq,and_true]at hcs
  subst hcs;exact⟨[],none,0,rfl,by simp,by simp,.inl rfl⟩
 ·simp only [List.cons.injEq,and_true]at hcs
  subst hcs;simp only [if_true]at hmm;subst hmm;subst hd;have hlenb:len≤140737488351232:=by
   have hmem:(((List.range len).map D).length+((List.range (m-len)).map fun j=>D (len+j)).length)*P.bytesOf E≤reachBytes:=by
    apply hw;simp only [DataW.weights,hT];exact List.mem_cons_self
   simp only [List.length_map,List.length_range,reachBytes]at hmem;have:=Nat.le_mul_of_pos_right (len+(m-len)) be;omega
  rw[ce]at hx;have each:∀i,i<len->∃z:Pat,∃u,W.cell? (x.add (i*3))=some (.int .i64 z.m)/\W.cell? (x.add (i*3+1))=some (.int .i64 z.r)/\W.cell? (x.add (i*3+2))=some u/\Seg W u z.d/\z.d.length≤140737488351232:=by
   intro i hi;obtain⟨cs',h1,h2⟩:=hx i (by omega);obtain⟨_,hlen,hcell⟩:=World.cells?_some h1;obtain⟨xs,k,hk,hxy,_,hxl,hfld⟩:=DataW.trod_struct hE h2;match xs,hxl,cs',hlen with
   | [y0,y1,y2],_,[v0,v1,v2],_=>
    have g0:=hfld 0 f0 rfl;have g1:=hfld 1 f1 rfl;have g2:=hfld 2 f2 rfl;simp[o0,o1,o2,c0,c1,c2]at g0 g1 g2;have e0:=hcell 0 (by omega);have e1:=hcell 1 (by omega);have e2:=hcell 2 (by omega);rw[add_add]at e0 e1 e2;obtain⟨z0,q0,_⟩:=DataW.trod_int t0 g0;obtain⟨z1,q1,_⟩:=DataW.trod_int t1 g1;have hDi:D i=.agg [y0.1,y1.1,y2.1]:=by
     have:=congrArg Prod.fst hxy;simpa using this
    obtain⟨lb,q3,q4⟩:=seg_of_cell_w t2 tb cb bb g2 (fun n hn=>hw n (by
     simp only [DataW.weights,hT]
     refine List.mem_cons_of_mem _ (List.mem_append_left _ (weights_all_mem (i:=i) (d:=D i) (by simp[hi]) _ ?_))
     rw[hDi]
     simp only [DataW.weights,hE,DataW.weightsEach,List.map_cons,List.map_nil,List.append_nil]
     exact List.mem_append_right _ (List.mem_append_right _ hn)))
    simp at q0 q1;subst q0;subst q1;exact⟨⟨z0,z1,lb⟩,v2,by simpa using e0,by simpa using e1,by simpa using e2,q3,q4⟩
  haveI:Inhabited Pat:=⟨⟨0,0,[]⟩⟩;obtain⟨F,hF⟩:=choose_lt (α:=Pat) each;have hlen:((List.range len).map F).length=len:=by simp
  refine⟨(List.range len).map F,some x,m,by rw[hlen],by rw[hlen];omega,fun u hu=> ?_,?_⟩
  ·obtain⟨i,hi,rfl⟩:=List.mem_map.1 hu
   obtain⟨_,_,_,_,_,h5⟩:=hF i (by simpa using hi);omega
  ·rcases Nat.eq_zero_or_pos len with h0|h0
   ·left;rw[h0];rfl
   ·right
    obtain⟨b,off,spot⟩:=x;have hspot:spot=none:=by
     obtain⟨u,h0',_⟩:=hF 0 (by omega);simpa [Addr.add]using World.cell?_spot h0'
    subst hspot;refine⟨b,off,rfl,?_,fun j hj=> ?_⟩
    ·obtain⟨u,h1,_⟩:=hF 0 (by omega)
     rw[Go.WideShapes.add_plain]at h1;exact block_lt_of_cell h1
    ·rw[hlen]at hj
     obtain⟨u,h1,h2,h3,h4,_⟩:=hF j hj;rw[Go.WideShapes.add_plain]at h1 h2 h3;rw[List.getElem_map,List.getElem_range];exact⟨h1,by rw[show off+j*3+1=off+(j*3+1) by omega];exact h2,u,by rw[show off+j*3+2=off+(j*3+2) by omega];exact h3,h4⟩
theorem puts_of_cell14 {H:Type} {enc:TypeId×Value->H} {P:Program} {W:World} {T E EB fuel:Nat} {v:Value} {x0:DataW H×List MemPlace} {f0 f1:Field}
  (hT:P.underlying T=some (.slice E)) (hE:P.underlying E=some (.struct #[f0,f1])) (ce:P.cellsOf E=2) (be:0<P.bytesOf E) (o0:f0.offset=0) (o1:f1.offset=1) (c0:P.cellsOf f0.type=1) (c1:P.cellsOf f1.type=1)
  (t0:P.underlying f0.type=some (.int .i64)) (t1:P.underlying f1.type=some (.slice EB)) (tb:P.underlying EB=some (.int .u8)) (cb:P.cellsOf EB=1) (bb:P.bytesOf EB=1)
  (hf:DataW.trod enc P W 0 (fun _=>true) true fuel T [v]=some x0) (hw:∀n∈x0.1.weights P T,n≤reachBytes):∃us,PutSeg W v us:=by
 rcases Go.Deep.open_slice hT hf with ⟨hcs,_⟩|⟨x,len,cap,m,n,D,Pl,hcs,_,hl,hm,hmm,hd,hx⟩
 ·simp only [List.cons.injEq,and_true]at hcs
  subst hcs;exact⟨[],none,0,rfl,by simp,by simp,.inl rfl⟩
 ·simp only [List.cons.injEq,and_true]at hcs
  subst hcs;simp only [if_true]at hmm;subst hmm;subst hd;have hlenb:len≤140737488351232:=by
   have hmem:(((List.range len).map D).length+((List.range (m-len)).map fun j=>D (len+j)).length)*P.bytesOf E≤reachBytes:=by
    apply hw;simp only [DataW.weights,hT];exact List.mem_cons_self
   simp only [List.length_map,List.length_range,reachBytes]at hmem;have:=Nat.le_mul_of_pos_right (len+(m-len)) be;omega
  rw[ce]at hx;have each:∀i,i<len->∃z:Int×List UInt8,∃u,W.cell? (x.add (i*2))=some (.int .i64 z.1)/\W.cell? (x.add (i*2+1))=some u/\Seg W u z.2/\z.2.length≤140737488351232:=by
   intro i hi;obtain⟨cs',h1,h2⟩:=hx i (by omega);obtain⟨_,hlen,hcell⟩:=World.cells?_some h1;obtain⟨xs,k,hk,hxy,_,hxl,hfld⟩:=DataW.trod_struct hE h2;match xs,hxl,cs',hlen with
   | [y0,y1],_,[v0,v1],_=>
    have g0:=hfld 0 f0 rfl;have g1:=hfld 1 f1 rfl;simp[o0,o1,c0,c1]at g0 g1;have e0:=hcell 0 (by omega);have e1:=hcell 1 (by omega);rw[add_add]at e0 e1;obtain⟨z0,q0,_⟩:=DataW.trod_int t0 g0;have hDi:D i=.agg [y0.1,y1.1]:=by
     have:=congrArg Prod.fst hxy;simpa using this
    obtain⟨lb,q3,q4⟩:=seg_of_cell_w t1 tb cb bb g1 (fun n hn=>hw n (by
     simp only [DataW.weights,hT]
     refine List.mem_cons_of_mem _ (List.mem_append_left _ (weights_all_mem (i:=i) (d:=D i) (by simp[hi]) _ ?_))
     rw[hDi]
     simp only [DataW.weights,hE,DataW.weightsEach,List.map_cons,List.map_nil,List.append_nil]
     exact List.mem_append_right _ hn))
    simp at q0;subst q0;exact⟨(z0,lb),v1,by simpa using e0,by simpa using e1,q3,q4⟩
  obtain⟨F,hF⟩:=choose_lt (α:=Int×List UInt8) each;have hlen:((List.range len).map F).length=len:=by simp
  refine⟨(List.range len).map F,some x,m,by rw[hlen],by rw[hlen];omega,fun u hu=> ?_,?_⟩
  ·obtain⟨i,hi,rfl⟩:=List.mem_map.1 hu
   obtain⟨_,_,_,_,h5⟩:=hF i (by simpa using hi);omega
  ·rcases Nat.eq_zero_or_pos len with h0|h0
   ·left;rw[h0];rfl
   ·right
    obtain⟨b,off,spot⟩:=x;have hspot:spot=none:=by
     obtain⟨u,h0',_⟩:=hF 0 (by omega);simpa [Addr.add]using World.cell?_spot h0'
    subst hspot;refine⟨b,off,rfl,?_,fun j hj=> ?_⟩
    ·obtain⟨u,h1,_⟩:=hF 0 (by omega)
     rw[Go.WideShapes.add_plain]at h1;exact block_lt_of_cell h1
    ·rw[hlen]at hj
     obtain⟨u,h1,h2,h3,h4⟩:=hF j hj;rw[Go.WideShapes.add_plain]at h1 h2;rw[List.getElem_map,List.getElem_range];exact⟨h1,u,by rw[show off+j*2+1=off+(j*2+1) by omega];exact h2,h3⟩
def KSeg (W:World) (v:Value) (ks:List Nat):Prop:=
 ∃a c,v=.slice a ks.length c/\ks.length≤140737488355328/\(∀k∈ks,k≤140737488355328)/\(ks= []\/∃b o,a=some ⟨b,o,none⟩/\b<W.heap.size/\∀j (h:j<ks.length),∃x cc,W.cell? ⟨b,o+j,none⟩=some (.slice x ks[j] cc))
theorem keeps_of_cell14 {H:Type} {enc:TypeId×Value->H} {P:Program} {W:World} {T E F fuel:Nat} {v:Value} {x0:DataW H×List MemPlace}
  (hT:P.underlying T=some (.slice E)) (hE:P.underlying E=some (.slice F)) (ce:P.cellsOf E=1) (be:0<P.bytesOf E) (bF:0<P.bytesOf F)
  (hf:DataW.trod enc P W 0 (fun _=>true) true fuel T [v]=some x0) (hw:∀n∈x0.1.weights P T,n≤reachBytes):∃ks,KSeg W v ks:=by
 rcases Go.Deep.open_slice hT hf with ⟨hcs,_⟩|⟨x,len,cap,m,n,D,Pl,hcs,_,hl,hm,hmm,hd,hx⟩
 ·simp only [List.cons.injEq,and_true]at hcs
  subst hcs;exact⟨[],none,0,rfl,by simp,by simp,.inl rfl⟩
 ·simp only [List.cons.injEq,and_true]at hcs
  subst hcs;simp only [if_true]at hmm;subst hmm;subst hd;have hlenb:len≤140737488351232:=by
   have hmem:(((List.range len).map D).length+((List.range (m-len)).map fun j=>D (len+j)).length)*P.bytesOf E≤reachBytes:=by
    apply hw;simp only [DataW.weights,hT];exact List.mem_cons_self
   simp only [List.length_map,List.length_range,reachBytes]at hmem;have:=Nat.le_mul_of_pos_right (len+(m-len)) be;omega
  rw[ce]at hx;have each:∀i,i<len->∃k:Nat,∃y c,W.cell? (x.add (i*1))=some (.slice y k c)/\k≤140737488351232:=by
   intro i hi;obtain⟨cs',h1,h2⟩:=hx i (by omega);obtain⟨_,hlen,hcell⟩:=World.cells?_some h1;match cs',hlen with
   | [v0],_=>
    have e0:=hcell 0 (by omega);rw[add_add]at e0;rcases Go.Deep.open_slice hE h2 with ⟨hcs,_⟩|⟨x',l',c',m',n',D',Pl',hcs,_,hl',hm',hmm',hd',hx'⟩
    ·simp only [List.cons.injEq,and_true]at hcs
     subst hcs;exact⟨0,_,_,by simpa using e0,by omega⟩
    ·simp only [List.cons.injEq,and_true]at hcs
     subst hcs;simp only [if_true]at hmm';subst hmm';refine⟨l',_,_,by simpa using e0,?_⟩;have hmem:(((List.range l').map D').length+((List.range (m'-l')).map fun j=>D' (l'+j)).length)*P.bytesOf F≤reachBytes:=by
      apply hw;simp only [DataW.weights,hT];refine List.mem_cons_of_mem _ (List.mem_append_left _ (weights_all_mem (i:=i) (d:=D i) (by simp[hi]) _ ?_));have hDi:=congrArg Prod.fst hd';simp only at hDi;rw[hDi];simp only [DataW.weights,hE];exact List.mem_cons_self
     simp only [List.length_map,List.length_range,reachBytes]at hmem;have:=Nat.le_mul_of_pos_right (l'+(m'-l')) bF;omega
  obtain⟨G,hG⟩:=choose_lt (α:=Nat) each;have hlen:((List.range len).map G).length=len:=by simp
  refine⟨(List.range len).map G,some x,m,by rw[hlen],by rw[hlen];omega,fun u hu=> ?_,?_⟩
  ·obtain⟨i,hi,rfl⟩:=List.mem_map.1 hu
   obtain⟨_,_,_,h5⟩:=hG i (by simpa using hi);omega
  ·rcases Nat.eq_zero_or_pos len with h0|h0
   ·left;rw[h0];rfl
   ·right
    obtain⟨b,off,spot⟩:=x;have hspot:spot=none:=by
     obtain⟨_,_,h0',_⟩:=hG 0 (by omega);simpa [Addr.add]using World.cell?_spot h0'
    subst hspot;refine⟨b,off,rfl,?_,fun j hj=> ?_⟩
    ·obtain⟨_,_,h1,_⟩:=hG 0 (by omega)
     rw[Go.WideShapes.add_plain]at h1;exact block_lt_of_cell h1
    ·rw[hlen]at hj
     obtain⟨y,c,h1,_⟩:=hG j hj;rw[Go.WideShapes.add_plain,Nat.mul_one]at h1;rw[List.getElem_map,List.getElem_range];exact⟨y,c,h1⟩
theorem KSeg.below {w w':World} {v:Value} {ks:List Nat} (h:KSeg w v ks) (hb:Below w.heap.size w w'):KSeg w' v ks:=by
 obtain⟨a,c,h1,h2,h3,h4⟩:=h;refine⟨a,c,h1,h2,h3,h4.imp id ?_⟩;rintro ⟨b,o,e,hlt,hx⟩;refine⟨b,o,e,Nat.lt_of_lt_of_le hlt hb.size,fun j hj=> ?_⟩;obtain⟨x,cc,hc⟩:=hx j hj;exact⟨x,cc,(hb.cell hlt).trans hc⟩
theorem KSeg.shape {w:World} {v:Value} {ks:List Nat} (h:KSeg w v ks):∃a c,v=.slice a ks.length c:=by
 obtain⟨a,c,h1,-⟩:=h;exact⟨a,c,h1⟩
theorem PutSeg.few' {w:World} {v:Value} {us:List (Int×List UInt8)} (h:PutSeg w v us):us.length≤140737488355328:=by
 obtain⟨a,c,h1,h2,-⟩:=h;exact h2
structure ROp where
 kind:Int
 m:Int
 n:Int
 down:Bool
 puts:List (Int×List UInt8)
 pats:List Pat
 keeps:List Nat
structure ROpAt (W:World) (b o:Nat) (p:ROp):Prop where
 kind:W.cell? ⟨b,o,none⟩=some (.int .i64 p.kind)
 m:W.cell? ⟨b,o+1,none⟩=some (.int .i64 p.m)
 n:W.cell? ⟨b,o+2,none⟩=some (.int .i64 p.n)
 down:W.cell? ⟨b,o+3,none⟩=some (.bool p.down)
 puts:∃u,W.cell? ⟨b,o+4,none⟩=some u/\PutSeg W u p.puts
 pats:∃u,W.cell? ⟨b,o+5,none⟩=some u/\PSeg W u p.pats
 keeps:∃u,W.cell? ⟨b,o+6,none⟩=some u/\KSeg W u p.keeps
theorem ROpAt.below {w w':World} {b o:Nat} {p:ROp} (h:ROpAt w b o p) (hlt:b<w.heap.size) (hb:Below w.heap.size w w'):ROpAt w' b o p:=by
 obtain⟨h0,h1,h2,h3,⟨u4,h4,g4⟩,⟨u5,h5,g5⟩,u6,h6,g6⟩:=h;exact⟨(hb.cell hlt).trans h0,(hb.cell hlt).trans h1,(hb.cell hlt).trans h2,(hb.cell hlt).trans h3,⟨u4,(hb.cell hlt).trans h4,g4.below hb⟩,⟨u5,(hb.cell hlt).trans h5,g5.below hb⟩,u6,(hb.cell hlt).trans h6,g6.below hb⟩
def ROpSeg (W:World) (v:Value) (l:List ROp):Prop:=
 ∃a c,v=.slice a l.length c/\l.length≤140737488355328/\(l= []\/∃b o,a=some ⟨b,o,none⟩/\b<W.heap.size/\∀j (h:j<l.length),ROpAt W b (o+j*7) l[j])
theorem ROpSeg.below {w w':World} {v:Value} {l:List ROp} (h:ROpSeg w v l) (hb:Below w.heap.size w w'):ROpSeg w' v l:=by
 obtain⟨a,c,h1,h2,h3⟩:=h;refine⟨a,c,h1,h2,h3.imp id ?_⟩;rintro ⟨b,o,e,hlt,hx⟩;exact⟨b,o,e,Nat.lt_of_lt_of_le hlt hb.size,fun j hj=>(hx j hj).below hlt hb⟩
theorem ROpSeg.shape {w:World} {v:Value} {l:List ROp} (h:ROpSeg w v l):∃a c,v=.slice a l.length c:=by
 obtain⟨a,c,h1,-⟩:=h;exact⟨a,c,h1⟩
theorem ROpSeg.few {w:World} {v:Value} {l:List ROp} (h:ROpSeg w v l):l.length≤140737488355328:=by
 obtain⟨a,c,-,h2,-⟩:=h;exact h2
theorem ROpSeg.full {w:World} {a:Option Addr} {n c:Nat} {l:List ROp} (h:ROpSeg w (.slice a n c) l) (hl:0<l.length):∃b o,a=some ⟨b,o,none⟩/\b<w.heap.size/\∀j (h:j<l.length),ROpAt w b (o+j*7) l[j]:=by
 obtain⟨a',c',h1,h2,h3⟩:=h;simp only [Value.slice.injEq]at h1;obtain⟨rfl,rfl,rfl⟩:=h1;rcases h3 with e|e
 ·rw[e]at hl
  exact absurd hl (by simp)
 ·exact e
theorem rops_of_trod' {H:Type} {enc:TypeId×Value->H} {P:Program} {W:World} {T E base:Nat} {v:Value} {d:DataW H} {ps:List MemPlace} {f0 f1 f2 f3 f4 f5 f6:Field}
  (hT:P.underlying T=some (.slice E)) (hE:P.underlying E=some (.struct #[f0,f1,f2,f3,f4,f5,f6])) (ce:P.cellsOf E=7) (be:0<P.bytesOf E)
  (o0:f0.offset=0) (o1:f1.offset=1) (o2:f2.offset=2) (o3:f3.offset=3) (o4:f4.offset=4) (o5:f5.offset=5) (o6:f6.offset=6)
  (c0:P.cellsOf f0.type=1) (c1:P.cellsOf f1.type=1) (c2:P.cellsOf f2.type=1) (c3:P.cellsOf f3.type=1) (c4:P.cellsOf f4.type=1) (c5:P.cellsOf f5.type=1) (c6:P.cellsOf f6.type=1)
  (t0:P.underlying f0.type=some (.int .i64)) (t1:P.underlying f1.type=some (.int .i64)) (t2:P.underlying f2.type=some (.int .i64)) (t3:P.underlying f3.type=some .bool)
  (h4:∀fuel v x,DataW.trod enc P W 0 (fun _=>true) true fuel f4.type [v]=some x->(∀n∈x.1.weights P f4.type,n≤reachBytes)->∃us,PutSeg W v us)
  (h5:∀fuel v x,DataW.trod enc P W 0 (fun _=>true) true fuel f5.type [v]=some x->(∀n∈x.1.weights P f5.type,n≤reachBytes)->∃us,PSeg W v us)
  (h6:∀fuel v x,DataW.trod enc P W 0 (fun _=>true) true fuel f6.type [v]=some x->(∀n∈x.1.weights P f6.type,n≤reachBytes)->∃us,KSeg W v us)
  (hv:Value.okWide P W .any base T v) (h:DataW.Trod enc P W 0 (fun _=>true) true T v d ps) (hw:∀n∈d.weights P T,n≤reachBytes):∃l,ROpSeg W v l:=by
 obtain⟨a,len,cap,rfl⟩:=Go.WideShapes.okWide_slice hT hv;obtain⟨fuel,hf⟩:=h;rcases Go.Deep.open_slice hT hf with ⟨hcs,_⟩|⟨x,l,c,m,n,D,Pl,hcs,_,hl,hm,hmm,hd,hx⟩
 ·simp[Value.cells]at hcs
  obtain⟨rfl,rfl,rfl⟩:=hcs;exact⟨[],none,0,rfl,by simp,.inl rfl⟩
 ·simp[Value.cells]at hcs
  obtain⟨rfl,rfl,rfl⟩:=hcs;simp only [if_true]at hmm;subst hmm;simp only [Prod.mk.injEq]at hd;have hlenb:len≤140737488351232:=by
   have hmem:(((List.range len).map D).length+((List.range (m-len)).map fun j=>D (len+j)).length)*P.bytesOf E≤reachBytes:=by
    apply hw;rw[hd.1];simp only [DataW.weights,hT];exact List.mem_cons_self
   simp only [List.length_map,List.length_range,reachBytes]at hmem;have:=Nat.le_mul_of_pos_right (len+(m-len)) be;omega
  rw[ce]at hx;have each:∀i,i<len->∃z:ROp,W.cell? (x.add (i*7))=some (.int .i64 z.kind)/\W.cell? (x.add (i*7+1))=some (.int .i64 z.m)/\W.cell? (x.add (i*7+2))=some (.int .i64 z.n)/\W.cell? (x.add (i*7+3))=some (.bool z.down)/\(∃u,W.cell? (x.add (i*7+4))=some u/\PutSeg W u z.puts)/\(∃u,W.cell? (x.add (i*7+5))=some u/\PSeg W u z.pats)/\(∃u,W.cell? (x.add (i*7+6))=some u/\KSeg W u z.keeps):=by
   intro i hi;obtain⟨cs',h1,h2⟩:=hx i (by omega);obtain⟨_,hlen,hcell⟩:=World.cells?_some h1;obtain⟨xs,k,hk,hxy,_,hxl,hfld⟩:=DataW.trod_struct hE h2;match xs,hxl,cs',hlen with
   | [y0,y1,y2,y3,y4,y5,y6],_,[v0,v1,v2,v3,v4,v5,v6],_=>
    have g0:=hfld 0 f0 rfl;have g1:=hfld 1 f1 rfl;have g2:=hfld 2 f2 rfl;have g3:=hfld 3 f3 rfl;have g4:=hfld 4 f4 rfl;have g5:=hfld 5 f5 rfl;have g6:=hfld 6 f6 rfl;simp[o0,o1,o2,o3,o4,o5,o6,c0,c1,c2,c3,c4,c5,c6]at g0 g1 g2 g3 g4 g5 g6;have e0:=hcell 0 (by omega);have e1:=hcell 1 (by omega);have e2:=hcell 2 (by omega);have e3:=hcell 3 (by omega);have e4:=hcell 4 (by omega);have e5:=hcell 5 (by omega);have e6:=hcell 6 (by omega);rw[add_add]at e0 e1 e2 e3 e4 e5 e6;obtain⟨z0,q0,_⟩:=DataW.trod_int t0 g0;obtain⟨z1,q1,_⟩:=DataW.trod_int t1 g1;obtain⟨z2,q2,_⟩:=DataW.trod_int t2 g2;obtain⟨z3,q3,_⟩:=DataW.trod_bool t3 g3;have hDi:D i=.agg [y0.1,y1.1,y2.1,y3.1,y4.1,y5.1,y6.1]:=by
     have:=congrArg Prod.fst hxy;simpa using this
    have up:∀n,n∈(D i).weights P E->n≤reachBytes:=fun n hn=>hw n (by
     rw[hd.1]
     simp only [DataW.weights,hT]
     exact List.mem_cons_of_mem _ (List.mem_append_left _ (weights_all_mem (i:=i) (d:=D i) (by simp[hi]) _ hn)))
    have wE:(D i).weights P E=y0.1.weights P f0.type++(y1.1.weights P f1.type++(y2.1.weights P f2.type++(y3.1.weights P f3.type++(y4.1.weights P f4.type++(y5.1.weights P f5.type++y6.1.weights P f6.type))))):=by
     rw[hDi];simp only [DataW.weights,hE,DataW.weightsEach,List.map_cons,List.map_nil,List.append_nil]
    obtain⟨us,r4⟩:=h4 _ _ _ g4 (fun n hn=>up n (by rw[wE];exact List.mem_append_right _ (List.mem_append_right _ (List.mem_append_right _ (List.mem_append_right _ (List.mem_append_left _ hn))))));obtain⟨qs,r5⟩:=h5 _ _ _ g5 (fun n hn=>up n (by rw[wE];exact List.mem_append_right _ (List.mem_append_right _ (List.mem_append_right _ (List.mem_append_right _ (List.mem_append_right _ (List.mem_append_left _ hn)))))));obtain⟨ks,r6⟩:=h6 _ _ _ g6 (fun n hn=>up n (by rw[wE];exact List.mem_append_right _ (List.mem_append_right _ (List.mem_append_right _ (List.mem_append_right _ (List.mem_append_right _ (List.mem_append_right _ hn)))))));simp at q0 q1 q2 q3;subst q0;subst q1;subst q2;subst q3;exact⟨⟨z0,z1,z2,z3,us,qs,ks⟩,by simpa using e0,by simpa using e1,by simpa using e2,by simpa using e3,⟨v4,by simpa using e4,r4⟩,⟨v5,by simpa using e5,r5⟩,v6,by simpa using e6,r6⟩
  haveI:Inhabited ROp:=⟨⟨0,0,0,false,[],[],[]⟩⟩;obtain⟨F,hF⟩:=choose_lt (α:=ROp) each;have hlen:((List.range len).map F).length=len:=by simp
  refine⟨(List.range len).map F,some x,m,by rw[hlen],by rw[hlen];omega,?_⟩;rcases Nat.eq_zero_or_pos len with h0|h0
  ·left;rw[h0];rfl
  ·right
   obtain⟨b,off,spot⟩:=x;have hspot:spot=none:=by
    obtain⟨h0',_⟩:=hF 0 (by omega);simpa [Addr.add]using World.cell?_spot h0'
   subst hspot;refine⟨b,off,rfl,?_,fun j hj=> ?_⟩
   ·obtain⟨h1,_⟩:=hF 0 (by omega)
    rw[Go.WideShapes.add_plain]at h1;exact block_lt_of_cell h1
   ·rw[hlen]at hj
    obtain⟨r0,r1,r2,r3,⟨u4,r4,s4⟩,⟨u5,r5,s5⟩,u6,r6,s6⟩:=hF j hj;rw[Go.WideShapes.add_plain]at r0 r1 r2 r3 r4 r5 r6;rw[List.getElem_map,List.getElem_range];exact⟨r0,by rw[show off+j*7+1=off+(j*7+1) by omega];exact r1,by rw[show off+j*7+2=off+(j*7+2) by omega];exact r2,by rw[show off+j*7+3=off+(j*7+3) by omega];exact r3,⟨u4,by rw[show off+j*7+4=off+(j*7+4) by omega];exact r4,s4⟩,⟨u5,by rw[show off+j*7+5=off+(j*7+5) by omega];exact r5,s5⟩,u6,by rw[show off+j*7+6=off+(j*7+6) by omega];exact r6,s6⟩
theorem rops_of_trod {H:Type} {enc:TypeId×Value->H} {W:World} {base:Nat} {v:Value} {d:DataW H} {ps:List MemPlace}
  (hv:Value.okWide Tryz.prog W .any base 26 v) (h:DataW.Trod enc Tryz.prog W 0 (fun _=>true) true 26 v d ps) (hw:∀n∈d.weights Tryz.prog 26,n≤reachBytes):∃l,ROpSeg W v l:=
 rops_of_trod' Tryz.underlying26 Tryz.underlying41 (by kernel_rfl) (by decide+kernel) rfl rfl rfl rfl rfl rfl rfl (by kernel_rfl) (by kernel_rfl) (by kernel_rfl) (by kernel_rfl) (by kernel_rfl) (by kernel_rfl) (by kernel_rfl)
  Tryz.underlying3 Tryz.underlying3 Tryz.underlying3 Tryz.underlying4
  (fun fuel v x hf hw=>puts_of_cell14 Tryz.underlying37 Tryz.underlying74 (by kernel_rfl) (by decide+kernel) rfl rfl (by kernel_rfl) (by kernel_rfl) Tryz.underlying3 Tryz.underlying35 Tryz.underlying5 (by kernel_rfl) (by kernel_rfl) hf hw)
  (fun fuel v x hf hw=>pats_of_cell14 Tryz.underlying38 Tryz.underlying76 (by kernel_rfl) (by decide+kernel) rfl rfl rfl (by kernel_rfl) (by kernel_rfl) (by kernel_rfl) Tryz.underlying3 Tryz.underlying3 Tryz.underlying35 Tryz.underlying5 (by kernel_rfl) (by kernel_rfl) hf hw)
  (fun fuel v x hf hw=>keeps_of_cell14 Tryz.underlying39 Tryz.underlying77 (by kernel_rfl) (by decide+kernel) (by decide+kernel) hf hw)
  hv h hw
end Go.Proofs.YtebmephdnjccjaaGreat
