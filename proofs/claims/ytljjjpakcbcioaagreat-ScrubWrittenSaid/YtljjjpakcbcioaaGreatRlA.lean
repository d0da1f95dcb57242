/- A script of the rows' laws, as an argument brings it (printed in part by gen_rla.py). -/
import Derived.Test.YtljjjpakcbcioaaGreatMrg31
import Derived.Test.YtljjjpakcbcioaaGreatMrg30
set_option linter.unusedVariables false
set_option maxRecDepth 100000
set_option maxHeartbeats 1000000
namespace Go.Proofs.YtljjjpakcbcioaaGreat
open Go.RowKit Go.ChangeShapes Go.WideShapes Go.ChangeAt Go.Deep
theorem puts_of_cell14 {H:Type} {enc:TypeId×Value->H} {P:Program} {W:World} {T E EB fuel:Nat} {v:Value} {x0:DataW H×List MemPlace} {f0 f1:Field}
  (hT:P.underlying T=some (.slice E)) (hE:P.underlying E=some (.struct #[f0,f1])) (ce:P.cellsOf E=2) (be:0<P.bytesOf E) (o0:f0.offset=0) (o1:f1.offset=1) (c0:P.cellsOf f0.type=1) (c1:P.cellsOf f1.type=1)
  (t0:P.underlying f0.type=some (.int .i64)) (t1:P.underlying f1.type=some (.slice EB)) (tb:P.underlying EB=some (.int .u8)) (cb:P.cellsOf EB=1) (bb:P.bytesOf EB=1)
  (hf:DataW.trod enc P W 0 (fun _=>true) true fuel T [v]=some x0) (hw:∀n∈x0.1.weights P T,n≤reachBytes):∃us,PutSeg W v us:=by
 rcases Go.Deep.open_slice hT hf with ⟨hcs,_⟩|⟨x,len,cap,m,n,D,Pl,hcs,_,hl,hm,hmm,hd,hx⟩
 ·simp only [List.cons.injEq,and_true]at hcs
  subst hcs;exact⟨[],none,0,rfl,by simp,by simp,.inl rfl⟩
 ·simp only [List.cons.injEq,and_true]at hcs
  subst hcs;simp only [if_true]at hmm;subst hmm;subst hd;have hlenb:len≤140737488351232:=by
   have hmem:(((List.range len).map D).length+((List.range (m-len)).map fun j=>D (len+j)).length)*P.bytesOf E≤reachBytes:=by
    apply hw;simp only [DataW.weights,hT];exact List.mem_cons_self
   simp only [List.length_map,List.length_range,reachBytes]at hmem;have:=Nat.le_mul_of_pos_right (len+(m-len)) be;omega
  rw[ce]at hx;have each:∀i,i<len->∃z:Int×List UInt8,∃u,W.cell? (x.add (i*2))=some (.int .i64 z.1)/\W.cell? (x.add (i*2+1))=some u/\Seg W u z.2/\z.2.length≤140737488351232:=by
   intro i hi;obtain⟨cs',h1,h2⟩:=hx i (by omega);obtain⟨_,hlen,hcell⟩:=World.cells?_some h1;obtain⟨xs,k,hk,hxy,_,hxl,hfld⟩:=DataW.trod_struct hE h2;match xs,hxl,cs',hlen with
   | [y0,y1],_,[v0,v1],_=>
    have g0:=hfld 0 f0 rfl;have g1:=hfld 1 f1 rfl;simp[o0,o1,c0,c1]at g0 g1;have e0:=hcell 0 (by omega);have e1:=hcell 1 (by omega);rw[add_add]at e0 e1;obtain⟨z0,q0,_⟩:=DataW.trod_int t0 g0;have hDi:D i=.agg [y0.1,y1.1]:=by
     have:=congrArg Prod.fst hxy;simpa using this
    obtain⟨lb,q3,q4⟩:=seg_of_cell_w t1 tb cb bb g1 (fun n hn=>hw n (by
     simp only [DataW.weights,hT]
     refine List.mem_cons_of_mem _ (List.mem_append_left _ (weights_all_mem (i:=i) (d:=D i) (by simp[hi]) _ ?_))
     rw[hDi]
     simp only [DataW.weights,hE,DataW.weightsEach,List.map_cons,List.map_nil,List.append_nil]
     exact List.mem_append_right _ hn))
    simp at q0;subst q0;exact⟨(z0,lb),v1,by simpa using e0,by simpa using e1,q3,q4⟩
  obtain⟨F,hF⟩:=choose_lt (α:=Int×List UInt8) each;have hlen:((List.range len).map F).length=len:=by simp
  refine⟨(List.range len).map F,some x,m,by rw[hlen],by rw[hlen];omega,fun u hu=> ?_,?_⟩
  ·obtain⟨i,hi,rfl⟩:=List.mem_map.1 hu
   obtain⟨_,_,_,_,h5⟩:=hF i (by simpa using hi);omega
  ·rcases Nat.eq_zero_or_pos len with h0|h0
   ·left;rw[h0];rfl
   ·right
    obtain⟨b,off,spot⟩:=x;have hspot:spot=none:=by
     obtain⟨u,h0',_⟩:=hF 0 (by omega);simpa [Addr.add]using World.cell?_spot h0'
    subst hspot;refine⟨b,off,rfl,?_,fun j hj=> ?_⟩
    ·obtain⟨u,h1,_⟩:=hF 0 (by omega)
     rw[Go.WideShapes.add_plain]at h1;exact block_lt_of_cell h1
    ·rw[hlen]at hj
     obtain⟨u,h1,h2,h3,h4⟩:=hF j hj;rw[Go.WideShapes.add_plain]at h1 h2;rw[List.getElem_map,List.getElem_range];exact⟨h1,u,by rw[show off+j*2+1=off+(j*2+1) by omega];exact h2,h3⟩
def KSeg (W:World) (v:Value) (ks:List Nat):Prop:=
 ∃a c,v=.slice a ks.length c/\ks.length≤140737488355328/\(∀k∈ks,k≤140737488355328)/\(ks= []\/∃b o,a=some ⟨b,o,none⟩/\b<W.heap.size/\∀j (h:j<ks.length),∃x cc,W.cell? ⟨b,o+j,none⟩=some (.slice x ks[j] cc))
theorem KSeg.below {w w':World} {v:Value} {ks:List Nat} (h:KSeg w v ks) (hb:Below w.heap.size w w'):KSeg w' v ks:=by
 obtain⟨a,c,h1,h2,h3,h4⟩:=h;refine⟨a,c,h1,h2,h3,h4.imp id ?_⟩;rintro ⟨b,o,e,hlt,hx⟩;refine⟨b,o,e,Nat.lt_of_lt_of_le hlt hb.size,fun j hj=> ?_⟩;obtain⟨x,cc,hc⟩:=hx j hj;exact⟨x,cc,(hb.cell hlt).trans hc⟩
theorem KSeg.shape {w:World} {v:Value} {ks:List Nat} (h:KSeg w v ks):∃a c,v=.slice a ks.length c:=by
 obtain⟨a,c,h1,-⟩:=h;exact⟨a,c,h1⟩
theorem PutSeg.few' {w:World} {v:Value} {us:List (Int×List UInt8)} (h:PutSeg w v us):us.length≤140737488355328:=by
 obtain⟨a,c,h1,h2,-⟩:=h;exact h2
structure ROp where
 kind:Int
 m:Int
 n:Int
 down:Bool
 puts:List (Int×List UInt8)
 pats:List Pat
 keeps:List Nat
structure ROpAt (W:World) (b o:Nat) (p:ROp):Prop where
 kind:W.cell? ⟨b,o,none⟩=some (.int .i64 p.kind)
 m:W.cell? ⟨b,o+1,none⟩=some (.int .i64 p.m)
 n:W.cell? ⟨b,o+2,none⟩=some (.int .i64 p.n)
 down:W.cell? ⟨b,o+3,none⟩=some (.bool p.down)
 puts:∃u,W.cell? ⟨b,o+4,none⟩=some u/\PutSeg W u p.puts
 pats:∃u,W.cell? ⟨b,o+5,none⟩=some u/\PSeg W u p.pats
 keeps:∃u,W.cell? ⟨b,o+6,none⟩=some u/\KSeg W u p.keeps
theorem ROpAt.below {w w':World} {b o:Nat} {p:ROp} (h:ROpAt w b o p) (hlt:b<w.heap.size) (hb:Below w.heap.size w w'):ROpAt w' b o p:=by
 obtain⟨h0,h1,h2,h3,⟨u4,h4,g4⟩,⟨u5,h5,g5⟩,u6,h6,g6⟩:=h;exact⟨(hb.cell hlt).trans h0,(hb.cell hlt).trans h1,(hb.cell hlt).trans h2,(hb.cell hlt).trans h3,⟨u4,(hb.cell hlt).trans h4,g4.below hb⟩,⟨u5,(hb.cell hlt).trans h5,g5.below hb⟩,u6,(hb.cell hlt).trans h6,g6.below hb⟩
def ROpSeg (W:World) (v:Value) (l:List ROp):Prop:=
 ∃a c,v=.slice a l.length c/\l.length≤140737488355328/\(l= []\/∃b o,a=some ⟨b,o,none⟩/\b<W.heap.size/\∀j (h:j<l.length),ROpAt W b (o+j*7) l[j])
theorem ROpSeg.below {w w':World} {v:Value} {l:List ROp} (h:ROpSeg w v l) (hb:Below w.heap.size w w'):ROpSeg w' v l:=by
 obtain⟨a,c,h1,h2,h3⟩:=h;refine⟨a,c,h1,h2,h3.imp id ?_⟩;rintro ⟨b,o,e,hlt,hx⟩;exact⟨b,o,e,Nat.lt_of_lt_of_le hlt hb.size,fun j hj=>(hx j hj).below hlt hb⟩
theorem ROpSeg.shape {w:World} {v:Value} {l:List ROp} (h:ROpSeg w v l):∃a c,v=.slice a l.length c:=by
 obtain⟨a,c,h1,-⟩:=h;exact⟨a,c,h1⟩
theorem ROpSeg.few {w:World} {v:Value} {l:List ROp} (h:ROpSeg w v l):l.length≤140737488355328:=by
 obtain⟨a,c,-,h2,-⟩:=h;exact h2
theorem ROpSeg.full {w:World} {a:Option Addr} {n c:Nat} {l:List ROp} (h:ROpSeg w (.slice a n c) l) (hl:0<l.length):∃b o,a=some ⟨b,o,none⟩/\b<w.heap.size/\∀j (h:j<l.length),ROpAt w b (o+j*7) l[j]:=by
 obtain⟨a',c',h1,h2,h3⟩:=h;simp only [Value.slice.injEq]at h1;obtain⟨rfl,rfl,rfl⟩:=h1;rcases h3 with e|e
 ·rw[e]at hl
  exact absurd hl (by simp)
 ·exact e
end Go.Proofs.YtljjjpakcbcioaaGreat
