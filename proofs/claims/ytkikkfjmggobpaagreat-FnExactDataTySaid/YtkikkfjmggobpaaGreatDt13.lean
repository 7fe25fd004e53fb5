/- Parts of the proof, merged: PNode, PatOk, PatOk2, PatOk3. -/
import Derived.Test.YtkikkfjmggobpaaGreatDt12
namespace Go.Proofs.YtkikkfjmggobpaaGreat
open Go.RowKit
set_option maxRecDepth 100000
set_option maxHeartbeats 16000000
set_option linter.unusedVariables false
set_option linter.unusedSimpArgs false
attribute [local go_sem] Ext.cell
def pnOk (l:List GDNode) (x:GDNode):Bool:=
 if x.kind=1\/x.kind=6 then ((x.kids.length:Int) == 0)&&((x.n == 0)&&x.s.toList.isEmpty)
 else if x.kind=2 then ((x.kids.length:Int) == 0)&&((x.n == 0)&&nameOk x.s)
 else if x.kind=3 then ((x.kids.length:Int) == 0)&&(x.s.toList.isEmpty&&decide (-4611686018427387903<=x.n/\x.n<=4611686018427387903))
 else if x.kind=5 then ((x.kids.length:Int) == 2)&&((x.n == 0)&&x.s.toList.isEmpty)
 else if x.kind=4 then (x.n == 0)&&conShape x.s x.kids.length (pairOf l x.kids)
 else false
theorem pnOk_kind (l:List GDNode) (kd nn:Int) (s:ByteArray) (ks:List Int) :
  ((kd=1\/kd=6)/\pnOk l ⟨kd,nn,s,ks⟩=(((ks.length:Int) == 0)&&((nn == 0)&&s.toList.isEmpty)))\/
  (kd=2/\pnOk l ⟨kd,nn,s,ks⟩=(((ks.length:Int) == 0)&&((nn == 0)&&nameOk s)))\/
  (kd=3/\pnOk l ⟨kd,nn,s,ks⟩=(((ks.length:Int) == 0)&&(s.toList.isEmpty&&decide (-4611686018427387903<=nn/\nn<=4611686018427387903))))\/
  (kd=4/\pnOk l ⟨kd,nn,s,ks⟩=((nn == 0)&&conShape s ks.length (pairOf l ks)))\/
  (kd=5/\pnOk l ⟨kd,nn,s,ks⟩=(((ks.length:Int) == 2)&&((nn == 0)&&s.toList.isEmpty)))\/
  ((kd == 1)=false/\(kd == 6)=false/\(kd == 2)=false/\(kd == 3)=false/\(kd == 4)=false/\(kd == 5)=false/\pnOk l ⟨kd,nn,s,ks⟩=false):=by
 unfold pnOk
 dsimp only
 by_cases h1:kd=1
 ·subst h1;exact .inl ⟨.inl rfl,rfl⟩
 by_cases h6:kd=6
 ·subst h6;exact .inl ⟨.inr rfl,rfl⟩
 by_cases h2:kd=2
 ·subst h2;exact .inr (.inl ⟨rfl,rfl⟩)
 by_cases h3:kd=3
 ·subst h3;exact .inr (.inr (.inl ⟨rfl,rfl⟩))
 by_cases h4:kd=4
 ·subst h4;exact .inr (.inr (.inr (.inl ⟨rfl,rfl⟩)))
 by_cases h5:kd=5
 ·subst h5;exact .inr (.inr (.inr (.inr (.inl ⟨rfl,rfl⟩))))
 refine .inr (.inr (.inr (.inr (.inr ⟨by simpa using h1,by simpa using h6,by simpa using h2,by simpa using h3,by simpa using h4,by simpa using h5,?_⟩))))
 rw[if_neg (by omega),if_neg h2,if_neg h3,if_neg h5,if_neg h4]
theorem pnOk_flat (kd nn:Int) (s:ByteArray) (hs:StrOk s) (ka da:Option Addr) (m kc dn dc:Nat) (w:World) (hk:kd≠4) (hm:m<=9223372036854775807) (l:List GDNode) (ks:List Int) (hl:ks.length=m) :
  Calls Tryz.prog 150 #[.agg #[.slice da dn dc],.agg #[.int .i64 kd,.int .i64 nn,.string s,.slice ka m kc]] w fun e w'=>e=.returned (.bool (pnOk l ⟨kd,nn,s,ks⟩))/\Below w.heap.size w w':=by
 rcases pnOk_kind l kd nn s ks with⟨h,e⟩|⟨rfl,e⟩|⟨rfl,e⟩|⟨rfl,e⟩|⟨rfl,e⟩|⟨e1,e6,e2,e3,e4,e5,e⟩
 ·rw[e,hl]
  clear hl e
  rcases h with rfl|rfl
  all_goals
   cases e0:((m:Int) == 0)<;>cases e1:(nn == 0)<;>cases e2:s.toList.isEmpty
   all_goals
    go_enter Tryz.func150,Tryz.ntmps150
    go_wp2_with fail
    go_returns
    exact⟨by simp,by go_grown⟩
 ·rw[e,hl]
  clear hl e
  have hc:=fun W=>impl_NameOk_c s hs W
  generalize nameOk s=q at *
  cases e0:((m:Int) == 0)<;>cases e1:(nn == 0)
  all_goals
   go_enter Tryz.func150,Tryz.ntmps150
   go_upto_region 1 with fail
   have D:RowAt (w.alloc (.cells #[.slice da dn dc] 177)) (w.heap.size) 0 [.slice da dn dc]:=RowAt.box w #[.slice da dn dc] 177
   have D:=D.below (show Below (w.alloc (.cells #[.slice da dn dc] 177)).heap.size (w.alloc (.cells #[.slice da dn dc] 177)) ((w.alloc (.cells #[.slice da dn dc] 177)).alloc (.cells #[.int .i64 2,.int .i64 nn,.string s,.slice ka m kc] 220)) by go_grown)
   have N:RowAt ((w.alloc (.cells #[.slice da dn dc] 177)).alloc (.cells #[.int .i64 2,.int .i64 nn,.string s,.slice ka m kc] 220)) (w.heap.size+1) 0 [.int .i64 2,.int .i64 nn,.string s,.slice ka m kc]:=by have h:=RowAt.box (w.alloc (.cells #[.slice da dn dc] 177)) #[.int .i64 2,.int .i64 nn,.string s,.slice ka m kc] 220;simp only[World.size_alloc]at h;exact h
   have hw:Below w.heap.size w ((w.alloc (.cells #[.slice da dn dc] 177)).alloc (.cells #[.int .i64 2,.int .i64 nn,.string s,.slice ka m kc] 220)):=by go_grown
   generalize ((w.alloc (.cells #[.slice da dn dc] 177)).alloc (.cells #[.int .i64 2,.int .i64 nn,.string s,.slice ka m kc] 220))=w0 at *
   have d_0:=D.box1;have hsD:=bLt d_0;obtain⟨n_0,n_1,n_2,n_3⟩:=N.box4;have hsN:=bLt n_0
   go_wp2_with (go_at_call 103;((with_reducible refine(hc _).mono ?_);rintro e w1 ⟨rfl,hb⟩;have hw:=hw.trans (hb.mono hw.size);have D:=D.below hb;have d_0:=D.box1;have hsD:=bLt d_0;have N:=N.below hb;obtain⟨n_0,n_1,n_2,n_3⟩:=N.box4;have hsN:=bLt n_0;clear hb))
   go_returns
   exact⟨by simp,hw⟩
 ·rw[e,hl]
  clear hl e
  cases e0:((m:Int) == 0)<;>cases e1:s.toList.isEmpty
  all_goals
   go_enter Tryz.func150,Tryz.ntmps150
   go_wp2_with (go_at_call 66;((with_reducible refine(within_c _ _ _ _).mono ?_);rintro e w1 ⟨rfl,rfl⟩))
   go_returns
   exact⟨by simp,by go_grown⟩
 ·exact absurd rfl hk
 ·rw[e,hl]
  clear hl e
  cases e0:((m:Int) == 2)<;>cases e1:(nn == 0)<;>cases e2:s.toList.isEmpty
  all_goals
   go_enter Tryz.func150,Tryz.ntmps150
   go_wp2_with fail
   go_returns
   exact⟨by simp,by go_grown⟩
 ·rw[e]
  clear e hk hl
  go_enter Tryz.func150,Tryz.ntmps150
  go_wp2_with fail
  go_returns
  exact⟨rfl,by go_grown⟩
theorem pnOk_con (x:GDNode) (hx4:x.kind=4) (hs:StrOk x.s) (d:GData) (hd:d.nodes.length<=1152921504606846976) (r1 r2:List Value) (lo1 lo2:Nat) (w:World) (hr1:GData.R lo1 w r1 d) (hr2:GDNode.R lo2 w r2 x)
  (hin:∀k,x.kids=[k]->0<=k/\k<d.nodes.length) :
  Calls Tryz.prog 150 #[.agg r1.toArray,.agg r2.toArray] w fun e w'=>e=.returned (.bool (pnOk d.nodes x))/\Below w.heap.size w w':=by
 obtain⟨kd,nn,s,ks⟩:=x
 dsimp only at hx4
 subst hx4
 unfold pnOk
 dsimp only at *
 rw[if_neg (by decide),if_neg (by decide),if_neg (by decide),if_neg (by decide),if_pos rfl]
 obtain⟨u0,rfl,-,a0⟩:=hr1
 obtain⟨v0,rfl,-,b0⟩:=hr2
 obtain⟨da,dc,rfl,dl,dm,a0⟩:=a0
 obtain⟨ka,kc,rfl,kl,km,b0⟩:=b0
 dsimp only at *
 by_cases hn:nn=0
 ·subst hn
  by_cases h1:ks.length=1
  ·obtain⟨k,rfl⟩ : ∃k,ks=[k]:=List.length_eq_one_iff.1 h1
   obtain⟨hk0,hk1⟩:=hin k rfl
   obtain⟨j,rfl⟩ : ∃j:Nat,k=j:=⟨k.toNat,by omega⟩
   obtain⟨b1,o1,k',s1,_,rfl,P1,⟨rfl,-⟩,q1⟩:=b0.get (k:=0) (kH rfl) (by simp)
   obtain rfl:(j:Int)=k':=by have:=P1.out;simpa using this
   obtain⟨b2,o2,y,s2,_,rfl,P2,hy,q2⟩:=a0.get (k:=j) (kH rfl) (by omega)
   obtain⟨y0,rfl,-,-⟩:=hy
   have e1:w.cell? ⟨b1,o1,none⟩=some (.int .i64 j):=by simpa using q1 0 _ rfl
   have e2:w.cell? ⟨b2,o2+j*4,none⟩=some (.int .i64 y.kind):=by simpa using q2 0 _ rfl
   have hp:pairOf d.nodes [(j:Int)]=(y.kind == 5):=by unfold pairOf kindAt;simp[P2.out]
   rw[hp]
   have hj:j<d.nodes.length:=by omega
   clear hp hin hk0 hk1 h1 a0 b0 q1 q2 P1 P2
   show Calls Tryz.prog 150 #[.agg #[.slice (some ⟨b2,o2,none⟩) d.nodes.length dc],.agg #[.int .i64 4,.int .i64 0,.string s,.slice (some ⟨b1,o1,none⟩) 1 kc]] w fun e w'=>e=.returned (.bool (conShape s 1 (y.kind == 5)))/\Below w.heap.size w w'
   have hc:=fun W=>conShape_c s 1 (y.kind == 5) hs W
   generalize d.nodes.length=n at *
   generalize y.kind=yk at *
   generalize conShape s 1 (yk == 5)=cs at *
   go_enter Tryz.func150,Tryz.ntmps150
   go_upto_region 1 with fail
   have D:RowAt (w.alloc (.cells #[.slice (some ⟨b2,o2,none⟩) n dc] 177)) (w.heap.size) 0 [.slice (some ⟨b2,o2,none⟩) n dc]:=RowAt.box w #[.slice (some ⟨b2,o2,none⟩) n dc] 177
   have D:=D.below (show Below (w.alloc (.cells #[.slice (some ⟨b2,o2,none⟩) n dc] 177)).heap.size (w.alloc (.cells #[.slice (some ⟨b2,o2,none⟩) n dc] 177)) ((w.alloc (.cells #[.slice (some ⟨b2,o2,none⟩) n dc] 177)).alloc (.cells #[.int .i64 4,.int .i64 0,.string s,.slice (some ⟨b1,o1,none⟩) 1 kc] 220)) by go_grown)
   have N:RowAt ((w.alloc (.cells #[.slice (some ⟨b2,o2,none⟩) n dc] 177)).alloc (.cells #[.int .i64 4,.int .i64 0,.string s,.slice (some ⟨b1,o1,none⟩) 1 kc] 220)) (w.heap.size+1) 0 [.int .i64 4,.int .i64 0,.string s,.slice (some ⟨b1,o1,none⟩) 1 kc]:=by have h:=RowAt.box (w.alloc (.cells #[.slice (some ⟨b2,o2,none⟩) n dc] 177)) #[.int .i64 4,.int .i64 0,.string s,.slice (some ⟨b1,o1,none⟩) 1 kc] 220;simp only[World.size_alloc]at h;exact h
   have hw:Below w.heap.size w ((w.alloc (.cells #[.slice (some ⟨b2,o2,none⟩) n dc] 177)).alloc (.cells #[.int .i64 4,.int .i64 0,.string s,.slice (some ⟨b1,o1,none⟩) 1 kc] 220)):=by go_grown
   generalize ((w.alloc (.cells #[.slice (some ⟨b2,o2,none⟩) n dc] 177)).alloc (.cells #[.int .i64 4,.int .i64 0,.string s,.slice (some ⟨b1,o1,none⟩) 1 kc] 220))=w0 at *
   have e1':=cell_below hw e1
   have e2':=cell_below hw e2
   have hb1':=World.block_lt_of_cell? _ _ e1'
   have hb2':=World.block_lt_of_cell? _ _ e2'
   dsimp only at hb1' hb2'
   clear e1 e2
   have d_0:=D.box1;have hsD:=bLt d_0;obtain⟨n_0,n_1,n_2,n_3⟩:=N.box4;have hsN:=bLt n_0
   go_upto_region 11 with fail
   (refine wp_region_ext_lit (by kernel_rfl) (by kernel_rfl) ?_;(repeat (any_goals (first|go_big_quiet_step ((first|(go_at_call 113;exact Calls.ext_same (hc _))))|quiet_step ((first|(go_at_call 113;exact Calls.ext_same (hc _))))|(refine wpQuiet_step (fun K hK=>?_);go_simp;split<;>(refine hK _ ?_;clear hK K)))));all_goals (refine wpQuiet_nil ?_;rintro w1 ⟨⟨w2,hb⟩,rfl⟩;have hw:=hw.trans (hb.mono hw.size);have D:=D.below hb;have d_0:=D.box1;have hsD:=bLt d_0;have N:=N.below hb;obtain⟨n_0,n_1,n_2,n_3⟩:=N.box4;have hsN:=bLt n_0;clear hb))
   all_goals go_wp2
   all_goals go_returns
   all_goals exact⟨rfl,hw⟩
  ·have hp:pairOf d.nodes ks=false:=by
    unfold pairOf
    match ks,h1 with
    |[],_=>rfl
    |[a],h=>exact absurd rfl h
    |a :: b :: c,_=>rfl
   rw[hp]
   show Calls Tryz.prog 150 #[.agg #[.slice da d.nodes.length dc],.agg #[.int .i64 4,.int .i64 0,.string s,.slice ka ks.length kc]] w fun e w'=>e=.returned (.bool (conShape s ks.length false))/\Below w.heap.size w w'
   have hc:=fun W=>conShape_c s ks.length false hs W
   generalize d.nodes.length=n at *
   have e1:((ks.length:Int) == 1)=false:=by simp;omega
   clear hp hin h1 a0 b0
   generalize ks.length=m at *
   generalize conShape s m false=cs at *
   go_enter Tryz.func150,Tryz.ntmps150
   go_upto_region 1 with fail
   have D:RowAt (w.alloc (.cells #[.slice da n dc] 177)) (w.heap.size) 0 [.slice da n dc]:=RowAt.box w #[.slice da n dc] 177
   have D:=D.below (show Below (w.alloc (.cells #[.slice da n dc] 177)).heap.size (w.alloc (.cells #[.slice da n dc] 177)) ((w.alloc (.cells #[.slice da n dc] 177)).alloc (.cells #[.int .i64 4,.int .i64 0,.string s,.slice ka m kc] 220)) by go_grown)
   have N:RowAt ((w.alloc (.cells #[.slice da n dc] 177)).alloc (.cells #[.int .i64 4,.int .i64 0,.string s,.slice ka m kc] 220)) (w.heap.size+1) 0 [.int .i64 4,.int .i64 0,.string s,.slice ka m kc]:=by have h:=RowAt.box (w.alloc (.cells #[.slice da n dc] 177)) #[.int .i64 4,.int .i64 0,.string s,.slice ka m kc] 220;simp only[World.size_alloc]at h;exact h
   have hw:Below w.heap.size w ((w.alloc (.cells #[.slice da n dc] 177)).alloc (.cells #[.int .i64 4,.int .i64 0,.string s,.slice ka m kc] 220)):=by go_grown
   generalize ((w.alloc (.cells #[.slice da n dc] 177)).alloc (.cells #[.int .i64 4,.int .i64 0,.string s,.slice ka m kc] 220))=w0 at *
   have d_0:=D.box1;have hsD:=bLt d_0;obtain⟨n_0,n_1,n_2,n_3⟩:=N.box4;have hsN:=bLt n_0
   go_upto_region 11 with fail
   (refine wp_region_ext_lit (by kernel_rfl) (by kernel_rfl) ?_;(repeat (any_goals (first|go_big_quiet_step ((first|(go_at_call 113;exact Calls.ext_same (hc _))))|quiet_step ((first|(go_at_call 113;exact Calls.ext_same (hc _))))|(refine wpQuiet_step (fun K hK=>?_);go_simp;split<;>(refine hK _ ?_;clear hK K)))));all_goals (refine wpQuiet_nil ?_;rintro w1 ⟨⟨w2,hb⟩,rfl⟩;have hw:=hw.trans (hb.mono hw.size);have D:=D.below hb;have d_0:=D.box1;have hsD:=bLt d_0;have N:=N.below hb;obtain⟨n_0,n_1,n_2,n_3⟩:=N.box4;have hsN:=bLt n_0;clear hb))
   all_goals go_wp2
   all_goals go_returns
   all_goals exact⟨rfl,hw⟩
 ·have en:(nn == 0)=false:=by simpa using hn
  rw[en]
  show Calls Tryz.prog 150 #[.agg #[.slice da d.nodes.length dc],.agg #[.int .i64 4,.int .i64 nn,.string s,.slice ka ks.length kc]] w fun e w'=>e=.returned (.bool false)/\Below w.heap.size w w'
  generalize d.nodes.length=n at *
  clear hin hn a0 b0
  generalize ks.length=m at *
  go_enter Tryz.func150,Tryz.ntmps150
  go_upto_region 1 with fail
  have D:RowAt (w.alloc (.cells #[.slice da n dc] 177)) (w.heap.size) 0 [.slice da n dc]:=RowAt.box w #[.slice da n dc] 177
  have D:=D.below (show Below (w.alloc (.cells #[.slice da n dc] 177)).heap.size (w.alloc (.cells #[.slice da n dc] 177)) ((w.alloc (.cells #[.slice da n dc] 177)).alloc (.cells #[.int .i64 4,.int .i64 nn,.string s,.slice ka m kc] 220)) by go_grown)
  have N:RowAt ((w.alloc (.cells #[.slice da n dc] 177)).alloc (.cells #[.int .i64 4,.int .i64 nn,.string s,.slice ka m kc] 220)) (w.heap.size+1) 0 [.int .i64 4,.int .i64 nn,.string s,.slice ka m kc]:=by have h:=RowAt.box (w.alloc (.cells #[.slice da n dc] 177)) #[.int .i64 4,.int .i64 nn,.string s,.slice ka m kc] 220;simp only[World.size_alloc]at h;exact h
  have hw:Below w.heap.size w ((w.alloc (.cells #[.slice da n dc] 177)).alloc (.cells #[.int .i64 4,.int .i64 nn,.string s,.slice ka m kc] 220)):=by go_grown
  generalize ((w.alloc (.cells #[.slice da n dc] 177)).alloc (.cells #[.int .i64 4,.int .i64 nn,.string s,.slice ka m kc] 220))=w0 at *
  have d_0:=D.box1;have hsD:=bLt d_0;obtain⟨n_0,n_1,n_2,n_3⟩:=N.box4;have hsN:=bLt n_0
  go_upto_region 11 with fail
  (refine wp_region_ext_lit (by kernel_rfl) (by kernel_rfl) ?_;(repeat (any_goals (first|go_big_quiet_step ((first|fail))|quiet_step ((first|fail))|(refine wpQuiet_step (fun K hK=>?_);go_simp;split<;>(refine hK _ ?_;clear hK K)))));all_goals (refine wpQuiet_nil ?_;rintro w1 ⟨⟨w2,hb⟩,rfl⟩;have hw:=hw.trans (hb.mono hw.size);have D:=D.below hb;have d_0:=D.box1;have hsD:=bLt d_0;have N:=N.below hb;obtain⟨n_0,n_1,n_2,n_3⟩:=N.box4;have hsN:=bLt n_0;clear hb))
  all_goals go_wp2
  all_goals go_returns
  all_goals exact⟨rfl,hw⟩
theorem patNodeOk_c (x:GDNode) (hs:StrOk x.s) (d:GData) (hd:d.nodes.length<=1152921504606846976) (r1 r2:List Value) (lo1 lo2:Nat) (w:World) (hr1:GData.R lo1 w r1 d) (hr2:GDNode.R lo2 w r2 x)
  (hin:∀k∈x.kids,0<=k/\k<d.nodes.length) :
  Calls Tryz.prog 150 #[.agg r1.toArray,.agg r2.toArray] w fun e w'=>e=.returned (.bool (pnOk d.nodes x))/\Below w.heap.size w w':=by
 by_cases h4:x.kind=4
 ·exact pnOk_con x h4 hs d hd r1 r2 lo1 lo2 w hr1 hr2 fun k h=>hin k (by rw[h];simp)
 ·obtain⟨u0,rfl,-,a0⟩:=hr1
  obtain⟨v0,rfl,-,b0⟩:=hr2
  obtain⟨da,dc,rfl,dl,dm,a0⟩:=a0
  obtain⟨ka,kc,rfl,kl,km,b0⟩:=b0
  exact pnOk_flat x.kind x.n x.s hs ka da x.kids.length kc d.nodes.length dc w h4 (by omega) d.nodes x.kids rfl
def varsOf (l:List GDNode):List ByteArray:=(l.filter fun x=>x.kind == 2).map (·.s)
theorem varsOf_snoc (l:List GDNode) (x:GDNode):varsOf (l ++ [x])=varsOf l++(if x.kind=2 then [x.s] else []):=by
 unfold varsOf
 rw[List.filter_append,List.map_append]
 congr 1
 by_cases h:x.kind=2
 ·rw[if_pos h];simp[h]
 ·rw[if_neg h];simp[h]
def patOk (d:GData):Bool:=decide (1<=(d.nodes.length:Int)/\(d.nodes.length:Int)<=600)&&(decide (endsK d.nodes.length (kidsAt d.nodes) (d.nodes.length+1) 0=d.nodes.length)&&(!(d.nodes.any fun x=>!pnOk d.nodes x)&&decide (varsOf d.nodes).Nodup))
theorem info_str' : (Tryz.prog.info? 9).map (fun i=>(i.zero,i.size,i.bytes))=some (some (.string ⟨#[]⟩),1,16):=by kernel_rfl
theorem patOk_bad {d:GData} {i:Nat} {x:GDNode} (hx:d.nodes[i]? = some x) (h:pnOk d.nodes x=false):patOk d=false:=by
 have:(d.nodes.any fun x=>!pnOk d.nodes x)=true:=List.any_eq_true.2 ⟨x,List.mem_of_getElem? hx,by rw[h];rfl⟩
 unfold patOk
 rw[this]
 simp
theorem varsOf_take (l:List GDNode) (k:Nat):(varsOf l).Nodup->(varsOf (l.take k)).Nodup:=fun h=>by
 have e:varsOf l=varsOf (l.take k)++varsOf (l.drop k):=by
  unfold varsOf;rw[<- List.map_append,<- List.filter_append,List.take_append_drop]
 rw[e]at h
 exact(List.nodup_append.1 h).1
theorem patOk_twice {d:GData} {k:Nat} (h : ¬ (varsOf (d.nodes.take k)).Nodup):patOk d=false:=by
 have:decide (varsOf d.nodes).Nodup=false:=decide_eq_false fun h'=>h (varsOf_take _ k h')
 unfold patOk
 rw[this]
 simp
theorem patOk_good {d:GData} (h0:1<=d.nodes.length) (h6:d.nodes.length<=600) (h:∀y∈d.nodes.take d.nodes.length,pnOk d.nodes y=true) (hv:(varsOf (d.nodes.take d.nodes.length)).Nodup) :
  patOk d=decide (endsK d.nodes.length (kidsAt d.nodes) (d.nodes.length+1) 0=d.nodes.length):=by
 have h1:(d.nodes.any fun x=>!pnOk d.nodes x)=false:=List.any_eq_false.2 fun y hy=>by rw[h y (by rw[List.take_length];exact hy)];decide
 rw[List.take_length]at hv
 unfold patOk
 rw[h1,decide_eq_true hv,decide_eq_true (by omega)]
 simp
theorem pn_step {d:GData} {i:Nat} {x:GDNode} (h:∀y∈d.nodes.take i,pnOk d.nodes y=true) (hx:d.nodes[i]? = some x) (hq:pnOk d.nodes x=true):∀y∈d.nodes.take (i+1),pnOk d.nodes y=true:=by
 rw[take_snoc' hx]
 intro y hy
 rcases List.mem_append.1 hy with h'|h'
 ·exact h y h'
 ·simp at h';subst h';exact hq
theorem any_mem {l:List ByteArray} {s:ByteArray} : (l.any fun y=>s.toList == y.toList)=true ↔ s∈l:=by
 rw[List.any_eq_true]
 exact⟨fun⟨y,hy,e⟩=>by rw[(toList_eq _ _).1 (eq_of_beq e)];exact hy,fun h=>⟨s,h,by simp⟩⟩
theorem patKids_c (d:GData) (hd:d.nodes.length<=1152921504606846976) (u:Value) (lo b:Nat) (w:World) (hu:Sl GDNode.R 4 lo w u d.nodes) (hb:w.cell? ⟨b,0,none⟩=some u) :
  KidsGive d.nodes.length (kidsAt d.nodes) 149 #[.pointer (some ⟨b,0,none⟩)] lo w:=by
 intro i hi
 obtain⟨ua,uc,rfl,ul,um,h0⟩:=hu
 obtain⟨b1,o1,x,r,_,rfl,P1,⟨u0,rfl,_,hk⟩,r1⟩:=h0.get (kH rfl) hi
 refine⟨u0,by unfold kidsAt;rw[P1.out];exact hk,fun W hW=>?_⟩
 have e1:=cell_below hW hb
 have e2:W.cell? ⟨b1,o1+i*4+3,none⟩=some u0:=cell_below hW (by simpa using r1 3 _ rfl)
 clear h0 P1 hk r1 hb hW
 generalize d.nodes.length=n at *
 show Calls Tryz.prog 149 #[.int .i64 i,.pointer (some ⟨b,0,none⟩)] W _
 go_enter Tryz.func149,Tryz.ntmps149
 go_wp2_with fail
 go_returns
 exact⟨rfl,by go_grown⟩
theorem patLoop_c (d:GData) (hd:d.nodes.length<=1152921504606846976) (a:Option Addr) (c lo:Nat) (w:World) (hr:Sl GDNode.R 4 lo w (.slice a d.nodes.length c) d.nodes) (h1:1<=(d.nodes.length:Int)/\(d.nodes.length:Int)<=600) (hk:endsK d.nodes.length (kidsAt d.nodes) (d.nodes.length+1) 0=d.nodes.length) :
  Calls Tryz.prog 106 #[.agg #[.slice a d.nodes.length c]] w fun e w'=>e=.returned (.bool (patOk d))/\Below w.heap.size w w':=by
 have H1:=fun W (hW:Below w.heap.size w W)=>patKids_c d hd (.slice a d.nodes.length c) lo w.heap.size W (hr.below GDNode.good hW)
 have H3:=fun W (hk:KidsGive d.nodes.length (kidsAt d.nodes) 149 #[.pointer (some ⟨w.heap.size,0,none⟩)] lo W)=>inOrder_c d.nodes.length hd (kidsAt d.nodes) 149 #[.pointer (some ⟨w.heap.size,0,none⟩)] lo W hk (fun _ _=>by kernel_rfl)
 rw[decide_eq_true hk]at H3
 have W1:=fun W=>within_c d.nodes.length 1 600 W
 rw[decide_eq_true h1]at W1
 have hin:∀ (i:Nat) x,d.nodes[i]? = some x->∀k∈x.kids,0<=k/\k<(d.nodes.length:Int):=fun i x hx=>kids_in hk hx
 have hgood:=fun h hv=>patOk_good (d:=d) (by omega) (by omega) h hv
 rw[decide_eq_true hk]at hgood
 obtain⟨a',c',he,ul,um,h0⟩:=hr
 obtain⟨rfl,rfl⟩ : a' = a/\c' = c:=by injection he with e1 e2 e3;exact⟨e1.symm,e3.symm⟩
 replace he:=kH he;replace hk:=kH hk
 obtain⟨n,hn⟩ : ∃n,n=d.nodes.length:=⟨_,rfl⟩
 have cN:=fun(x:GDNode) (hs:StrOk x.s) (r2:List Value) (W:World) (hW:Sl GDNode.R 4 lo W (.slice a' d.nodes.length c') d.nodes) (hr2:GDNode.R lo W r2 x) (hin:∀k∈x.kids,0<=k/\k<(d.nodes.length:Int))=>patNodeOk_c x hs d hd [.slice a' d.nodes.length c'] r2 lo lo W ⟨_,rfl,trivial,hW⟩ hr2 hin
 have hsl:∀W,Below w.heap.size w W->Sl GDNode.R 4 lo W (.slice a' d.nodes.length c') d.nodes:=fun W hW=>⟨a',c',rfl,ul,um,h0.below GDNode.good hW⟩
 rw[<- hn]at ul H1 H3 W1 hd h1 hin cN hsl hgood ⊢
 replace hn:=kH hn;replace H1:=kH H1;replace H3:=kH H3;replace W1:=kH W1;replace hin:=kH hin;replace cN:=kH cN;replace hsl:=kH hsl;replace hgood:=kH hgood;replace h0:=kH h0
 obtain⟨iJ,hi0,hz0,hz1,hz2⟩:=info_parts info_str';have IJ:=kH hi0;have IJ0:=kH hz0;have IJ1:=kH hz1;have IJ2:=kH hz2;clear hi0 hz0 hz1 hz2
 go_enter Tryz.func106,Tryz.ntmps106
 go_upto_region 1 with fail
 have B:RowAt (w.alloc (.cells #[.slice a' n c'] 177)) (w.heap.size) 0 [.slice a' n c']:=RowAt.box w #[.slice a' n c'] 177
 have hw:Below w.heap.size w (w.alloc (.cells #[.slice a' n c'] 177)):=by go_grown
 generalize (w.alloc (.cells #[.slice a' n c'] 177))=w0 at *
 have hsB0:=World.block_lt_of_cell? _ _ B.box1;dsimp only at hsB0
 have b_0:=B.box1;have hsB:=bLt b_0
 go_upto_region 3 with(first|(go_at_call 66;((with_reducible refine(W1.out _).mono ?_);rintro e w1 ⟨rfl,rfl⟩))|(go_at_call 67;((with_reducible refine(H3.out _ (H1.out _ hw b_0)).mono ?_);rintro e w1 ⟨rfl,hb⟩;have hw:=hw.trans (hb.mono hw.size);have B:=B.below hb;have b_0:=B.box1;have hsB:=bLt b_0;clear hb)))
 obtain⟨w2,hW2⟩ : ∃W,W=w1:=⟨_,rfl⟩
 rw[<- hW2]at hw B b_0 hsB ⊢
 clear hW2 hsB0
 go_upto_region 4 with fail
 obtain⟨w3,hW3⟩ : ∃W,W=w2.alloc (.cells #[] 9):=⟨_,rfl⟩
 rw[<- hW3]
 have hb3:Below w2.heap.size w2 w3:=by rw[hW3];go_grown
 have hz2:=hw.size
 have ON:OwnF 9 1 strRow StrOk (w.heap.size+1) w3 (.slice (some ⟨w2.heap.size,0,none⟩) 0 0) []:=⟨own_empty_at (by rw[hW3];exact heap_alloc_new' _ _ _ (by simp)) (by omega),fun x h=>by cases h⟩
 have hw:=hw.trans (hb3.mono hz2)
 have B:=B.below hb3
 clear hW3 b_0
 have b_0:=B.box1;have hsB:=bLt b_0
 go_wp2_with fail
 go_loopw [3,23] (fun nv ii wr=>∃k:Nat,k<=n/\ii=.int .i64 k/\Hid (OwnF 9 1 strRow StrOk (w.heap.size+1) wr nv (varsOf (d.nodes.take k)))/\Below w.heap.size w wr/\RowAt wr w.heap.size 0 [.slice a' n c']/\
  w.heap.size<wr.heap.size/\Hid (∀y∈d.nodes.take k,pnOk d.nodes y=true)/\Hid (varsOf (d.nodes.take k)).Nodup) (fun _ ii _=>n-(intOf ii).toNat)
 case atStart=>exact⟨0,by omega,rfl,ON,hw,B,hsB,fun y hy=>by simp at hy,by show(varsOf (d.nodes.take 0)).Nodup;simp[varsOf]⟩
 case round=>
  clear hw B b_0 hsB ON hb3 hz2
  obtain⟨k,hk,rfl,ON,hw,B,hsB',hF,hV⟩:=hrel
  have b_0:=B.box1;have hsB:=bLt b_0
  by_cases hlt:k<n
  ·obtain⟨b1,o1,x,s1,_,rfl,P1,hx,r1⟩:=(h0.out.below GDNode.good hw).get hn.out hlt
   have hxin:=hin.out k x P1.out
   have hc:=cN.out x
   obtain⟨kd,nn,s,ks⟩:=x
   have Hx:=hx
   obtain⟨u0,rfl,hwf,hkd⟩:=hx
   obtain⟨ka,kc,rfl,kl,km,k0⟩:=hkd
   have hss:StrOk s:=hwf.2.2
   obtain⟨m,hm⟩ : ∃m,m=ks.length:=⟨_,rfl⟩
   dsimp only at r1 kl k0 hwf Hx hc hxin
   rw[<- hm]at r1 kl Hx
   replace hm:=kH hm
   obtain⟨e_0,e_1,e_2,e_3⟩:=r1.cells4
   obtain⟨va,vc,rfl⟩:=ON.out.form
   have hz:=hw.size
   have hvl:(varsOf (d.nodes.take k)).length<=k:=by unfold varsOf;rw[List.length_map];exact Nat.le_trans (List.length_filter_le _ _) (by rw[List.length_take];omega)
   have P1':=P1.out
   have hbad:pnOk d.nodes ⟨kd,nn,s,ks⟩=false->patOk d=false:=fun h=>patOk_bad P1' h
   have hstep:=fun h=>pn_step hF.out P1' h
   have htk:varsOf (d.nodes.take (k+1))=varsOf (d.nodes.take k)++(if kd=2 then [s] else []):=by rw[take_snoc' P1',varsOf_snoc]
   have htwice:kd=2->s∈varsOf (d.nodes.take k)->patOk d=false:=fun h1 h2=>patOk_twice (k:=k+1) (by
    rw[htk,if_pos h1,List.nodup_append]
    exact fun h=>h.2.2 s h2 s (by simp) rfl)
   go_upto_region 7 with fail
   obtain⟨w4,hW4⟩ : ∃W,W=wr.alloc (.cells #[.int .i64 kd,.int .i64 nn,.string s,.slice ka m kc] 220):=⟨_,rfl⟩
   rw[<- hW4]
   have hb4:Below wr.heap.size wr w4:=by rw[hW4];go_grown
   have D:RowAt w4 wr.heap.size 0 [.int .i64 kd,.int .i64 nn,.string s,.slice ka m kc]:=by rw[hW4];exact RowAt.box _ _ _
   have hs4:w4.heap.size=wr.heap.size+1:=by rw[hW4];simp
   have hx4:∀W,Below w4.heap.size w4 W->Calls Tryz.prog 150 #[.agg #[.slice (some ⟨b1,o1,none⟩) n c'],.agg #[.int .i64 kd,.int .i64 nn,.string s,.slice ka m kc]] W fun e w'=>e=.returned (.bool (pnOk d.nodes ⟨kd,nn,s,ks⟩))/\Below W.heap.size W w':=fun W hW=>
    hc hss [.int .i64 kd,.int .i64 nn,.string s,.slice ka m kc] W (hsl.out W (hw.trans ((hb4.trans (hW.mono hb4.size)).mono hz))) (GDNode.good.below Hx (hb4.trans (hW.mono hb4.size))) hxin
   have ON4:=ON.out.below hb4
   have hcon:∀W,Below w4.heap.size w4 W->Calls Tryz.prog 62 #[.slice va (varsOf (d.nodes.take k)).length vc,.string s] W fun e w'=>e=.returned (.bool ((varsOf (d.nodes.take k)).any fun y=>s.toList == y.toList))/\Below W.heap.size W w':=fun W hW=>
    containsS_c _ s (w.heap.size+1) _ W ((ON4.below hW).sl flatStr)
   have B4:=B.below hb4
   have hw4:=hw.trans (hb4.mono hz)
   clear hW4 hb4 r1 Hx kl km k0 e_0 e_1 e_2 e_3 B b_0 hsB hc hxin P1 P1' hF
   generalize hq:pnOk d.nodes ⟨kd,nn,s,ks⟩=q at *
   generalize hvn:(varsOf (d.nodes.take k)).length=vn at *
   have hmem:=any_mem (l:=varsOf (d.nodes.take k)) (s:=s)
   generalize hcq:((varsOf (d.nodes.take k)).any fun y=>s.toList == y.toList)=cq at *
   have hway:(q=false/\patOk d=false)\/(q=true/\(kd == 2)=true/\cq=true/\patOk d=false)\/(q=true/\(kd == 2)=true/\cq=false/\kd=2/\s ∉ varsOf (d.nodes.take k))\/(q=true/\(kd == 2)=false/\kd≠2):=by
    cases q
    ·exact .inl ⟨rfl,hbad rfl⟩
    ·by_cases h2:kd=2
     ·cases cq
      ·exact .inr (.inr (.inl ⟨rfl,by simp[h2],rfl,h2,fun h=>by have:=hmem.2 h;cases this⟩))
      ·exact .inr (.inl ⟨rfl,by simp[h2],rfl,htwice h2 (hmem.1 rfl)⟩)
     ·exact .inr (.inr (.inr ⟨rfl,by simpa using h2,h2⟩))
   clear hbad htwice hmem hcq
   have B:=B4
   have hw:Below w4.heap.size w4 w4:=Below.refl _ _
   replace hx4:=kH hx4;replace hcon:=kH hcon;replace hstep:=kH hstep;replace htk:=kH htk;replace ON4:=kH ON4;replace hq:=kH hq;replace hvn:=kH hvn;replace hw4:=kH hw4
   have b_0:=B.box1;have hsB:=bLt b_0;obtain⟨d_0,d_1,d_2,d_3⟩:=D.box4;have hsD:=bLt d_0
   rcases hway with⟨rfl,hres⟩|⟨rfl,h2,rfl,hres⟩|⟨rfl,h2,rfl,hkd,hnm⟩|⟨rfl,h2,hkd⟩
   ·replace hres:=kH hres
    go_wp2_with (first|(go_at_call 150;((with_reducible refine(hx4.out _ hw).mono ?_);rintro e w1 ⟨rfl,hb⟩;have hw:=hw.trans (hb.mono hw.size);have B:=B.below hb;have b_0:=B.box1;have hsB:=bLt b_0;have D:=D.below hb;obtain⟨d_0,d_1,d_2,d_3⟩:=D.box4;have hsD:=bLt d_0;clear hb))|(go_at_call 62;((with_reducible refine(hcon.out _ hw).mono ?_);rintro e w1 ⟨rfl,hb⟩;have hw:=hw.trans (hb.mono hw.size);have B:=B.below hb;have b_0:=B.box1;have hsB:=bLt b_0;have D:=D.below hb;obtain⟨d_0,d_1,d_2,d_3⟩:=D.box4;have hsD:=bLt d_0;clear hb)))
    go_returns
    exact⟨by rw[hres.out];rfl,hw4.out.trans (hw.mono hw4.out.size)⟩
   ·replace hres:=kH hres
    go_wp2_with (first|(go_at_call 150;((with_reducible refine(hx4.out _ hw).mono ?_);rintro e w1 ⟨rfl,hb⟩;have hw:=hw.trans (hb.mono hw.size);have B:=B.below hb;have b_0:=B.box1;have hsB:=bLt b_0;have D:=D.below hb;obtain⟨d_0,d_1,d_2,d_3⟩:=D.box4;have hsD:=bLt d_0;clear hb))|(go_at_call 62;((with_reducible refine(hcon.out _ hw).mono ?_);rintro e w1 ⟨rfl,hb⟩;have hw:=hw.trans (hb.mono hw.size);have B:=B.below hb;have b_0:=B.box1;have hsB:=bLt b_0;have D:=D.below hb;obtain⟨d_0,d_1,d_2,d_3⟩:=D.box4;have hsD:=bLt d_0;clear hb)))
    go_returns
    exact⟨by rw[hres.out];rfl,hw4.out.trans (hw.mono hw4.out.size)⟩
   ·replace hnm:=kH hnm;replace hkd:=kH hkd
    go_upto_region 10 with(first|(go_at_call 150;((with_reducible refine(hx4.out _ hw).mono ?_);rintro e w1 ⟨rfl,hb⟩;have hw:=hw.trans (hb.mono hw.size);have B:=B.below hb;have b_0:=B.box1;have hsB:=bLt b_0;have D:=D.below hb;obtain⟨d_0,d_1,d_2,d_3⟩:=D.box4;have hsD:=bLt d_0;clear hb))|(go_at_call 62;((with_reducible refine(hcon.out _ hw).mono ?_);rintro e w1 ⟨rfl,hb⟩;have hw:=hw.trans (hb.mono hw.size);have B:=B.below hb;have b_0:=B.box1;have hsB:=bLt b_0;have D:=D.below hb;obtain⟨d_0,d_1,d_2,d_3⟩:=D.box4;have hsD:=bLt d_0;clear hb)))
    obtain⟨w5,hW5⟩ : ∃W,W=w1:=⟨_,rfl⟩
    rw[<- hW5]at hw B D b_0 d_0 d_1 d_2 d_3 hsB hsD ⊢
    clear hW5
    have ON5:=ON4.out.below hw
    have hvn2:vn<=600:=by omega
    have hbs:∀g,(Value.slice va vn vc).ownBlock=some g->w.heap.size+1<=g:=fun g hg=>by
     have h:=(ON5.base g hg).1
     exact h
    have hown0:w5.ownsRow (w.heap.size+1) 9 1 (.slice va vn vc) vn (rowsOf strRow (varsOf (d.nodes.take k))):=by have h:=ON5.1;rw[hvn.out]at h;exact h
    have hwr5:=hw4.out.trans (hw.mono hw4.out.size)
    have hz5:=hwr5.size
    replace ON5:=kH ON5;replace hown0:=kH hown0;replace hwr5:=kH hwr5
    go_wp2_with (at_builtin;refine wpList_append_lies _ rfl _ _ _ rfl (w.heap.size+1) 9 iJ _ 1 16 Tryz.underlying126 IJ.out IJ0.out IJ1.out IJ2.out rfl (by omega) (.slice va vn vc) (vn) (rowsOf strRow (varsOf (d.nodes.take k))) rfl (own_below hown0.out (by go_grown)) ⟨w5.heap.size,0,none⟩ 1 1 [.string s] rfl rfl (World.news_of_block (cs:=#[.string s]) (t:=9) (fr:=(0,0)) (heap_alloc_new' _ _ _ (by simp))) (by intro u hu;simp at hu;repeat' first|(subst hu;rfl)|rcases hu with hu|hu) (by omega) (by unfold maxLen;omega) (by omega) (by simp;omega) _ rfl ?_;intro g2 cap2 w6 hown hgrow hat hlt2)
    have hB6:Below w.heap.size w w6:=hwr5.out.trans ((below_grown2 (wr:=w5) (base:=w.heap.size+1) hgrow (by go_grown) (Below.refl _ w5) (by omega) hown0.out).mono (by omega))
    have k6:=kept_of hgrow (w:=w5) (by go_grown)
    have B6:=B.kept k6 (fun e=>by have:=hbs _ e.symm;omega)
    have hz6:w5.heap.size+1<=w6.heap.size:=by have:=hgrow.size;simpa using this
    go_roundw
    case rel=>
     refine⟨k+1,by omega,by go_num,?_,hB6,B6,by omega,hstep.out trivial,?_⟩
     ·show OwnF _ _ _ _ _ _ _ _
      rw[htk.out,if_pos hkd.out]
      refine⟨?_,fun y hy=>?_⟩
      ·rw[List.length_append,hvn.out,rowsOf_append,rowsOf_one]
       exact hown
      ·rcases List.mem_append.1 hy with h|h
       ·exact ON5.out.2 y h
       ·simp only[List.mem_singleton]at h;rw[h];exact hss
     ·show(varsOf _).Nodup
      rw[htk.out,if_pos hkd.out,List.nodup_append]
      exact⟨hV.out,by simp,fun a ha b hb=>by simp only[List.mem_singleton]at hb;subst hb;exact fun e=>hnm.out (e ▸ ha)⟩
    case measure=>simp[intOf];omega
   ·replace hkd:=kH hkd
    go_wp2_with (first|(go_at_call 150;((with_reducible refine(hx4.out _ hw).mono ?_);rintro e w1 ⟨rfl,hb⟩;have hw:=hw.trans (hb.mono hw.size);have B:=B.below hb;have b_0:=B.box1;have hsB:=bLt b_0;have D:=D.below hb;obtain⟨d_0,d_1,d_2,d_3⟩:=D.box4;have hsD:=bLt d_0;clear hb))|(go_at_call 62;((with_reducible refine(hcon.out _ hw).mono ?_);rintro e w1 ⟨rfl,hb⟩;have hw:=hw.trans (hb.mono hw.size);have B:=B.below hb;have b_0:=B.box1;have hsB:=bLt b_0;have D:=D.below hb;obtain⟨d_0,d_1,d_2,d_3⟩:=D.box4;have hsD:=bLt d_0;clear hb)))
    go_roundw
    case rel=>exact⟨k+1,by omega,by go_num,by show OwnF _ _ _ _ _ _ _ _;rw[htk.out,if_neg hkd.out,List.append_nil];have h:=ON4.out.below hw;exact h,hw4.out.trans (hw.mono hw4.out.size),B,by omega,hstep.out trivial,by show(varsOf _).Nodup;rw[htk.out,if_neg hkd.out,List.append_nil];exact hV.out⟩
    case measure=>simp[intOf];omega
  ·obtain rfl:k=n:=by omega
   have hres:=hgood.out hF.out hV.out
   replace hres:=kH hres
   go_wp2_with fail
   go_returns
   exact⟨by rw[hres.out];rfl,hw⟩
theorem PatOk_c (d:GData) (hd:d.nodes.length<=1152921504606846976) (r:List Value) (lo:Nat) (w:World) (hr:GData.R lo w r d) :
  Calls Tryz.prog 106 #[.agg r.toArray] w fun e w'=>e=.returned (.bool (patOk d))/\Below w.heap.size w w':=by
 obtain⟨u,rfl,-,hu⟩:=hr
 have hu':=hu
 obtain⟨a,c,rfl⟩:=hu'.form
 clear hu'
 by_cases h1:1<=(d.nodes.length:Int)/\(d.nodes.length:Int)<=600
 ·by_cases hk:endsK d.nodes.length (kidsAt d.nodes) (d.nodes.length+1) 0=d.nodes.length
  ·exact patLoop_c d hd a c lo w hu h1 hk
  ·have H1:=fun W (hW:Below w.heap.size w W)=>patKids_c d hd (.slice a d.nodes.length c) lo w.heap.size W (hu.below GDNode.good hW)
   have H3:=fun W (hk:KidsGive d.nodes.length (kidsAt d.nodes) 149 #[.pointer (some ⟨w.heap.size,0,none⟩)] lo W)=>inOrder_c d.nodes.length hd (kidsAt d.nodes) 149 #[.pointer (some ⟨w.heap.size,0,none⟩)] lo W hk (fun _ _=>by kernel_rfl)
   rw[decide_eq_false hk]at H3
   have W1:=fun W=>within_c d.nodes.length 1 600 W
   rw[decide_eq_true h1]at W1
   have hno:patOk d=false:=by unfold patOk;rw[decide_eq_false hk];simp
   rw[hno]
   clear hk hno h1 hu
   replace H1:=kH H1
   replace H3:=kH H3
   generalize d.nodes.length=n at *
   show Calls Tryz.prog 106 #[.agg #[.slice a n c]] w _
   go_enter Tryz.func106,Tryz.ntmps106
   go_upto_region 1 with fail
   have B:RowAt (w.alloc (.cells #[.slice a n c] 177)) (w.heap.size) 0 [.slice a n c]:=RowAt.box w #[.slice a n c] 177
   have hw:Below w.heap.size w (w.alloc (.cells #[.slice a n c] 177)):=by go_grown
   generalize (w.alloc (.cells #[.slice a n c] 177))=w0 at *
   have b_0:=B.box1;have hsB:=bLt b_0
   go_wp2_with (first|(go_at_call 66;((with_reducible refine(W1 _).mono ?_);rintro e w1 ⟨rfl,rfl⟩))|(go_at_call 67;((with_reducible refine(H3.out _ (H1.out _ hw b_0)).mono ?_);rintro e w1 ⟨rfl,hb⟩;have hw:=hw.trans (hb.mono hw.size);have B:=B.below hb;have b_0:=B.box1;have hsB:=bLt b_0;clear hb)))
   go_returns
   exact⟨rfl,hw⟩
 ·have hno:patOk d=false:=by unfold patOk;rw[decide_eq_false h1];rfl
  rw[hno]
  have W1:=fun W=>within_c d.nodes.length 1 600 W
  rw[decide_eq_false h1]at W1
  clear h1 hu hno
  generalize d.nodes.length=n at *
  show Calls Tryz.prog 106 #[.agg #[.slice a n c]] w _
  go_enter Tryz.func106,Tryz.ntmps106
  go_upto_region 1 with fail
  have B:RowAt (w.alloc (.cells #[.slice a n c] 177)) (w.heap.size) 0 [.slice a n c]:=RowAt.box w #[.slice a n c] 177
  have hw:Below w.heap.size w (w.alloc (.cells #[.slice a n c] 177)):=by go_grown
  generalize (w.alloc (.cells #[.slice a n c] 177))=w0 at *
  have b_0:=B.box1;have hsB:=bLt b_0
  go_wp2_with (go_at_call 66;((with_reducible refine(W1 _).mono ?_);rintro e w1 ⟨rfl,rfl⟩))
  go_returns
  exact⟨rfl,hw⟩
theorem l04PEnd_out (x:GData) (i:Nat) (r:List Value) (lo:Nat) (w:World) (hx:GData.R lo w r x) (hi:x.nodes.length<=i) :
  Calls Tryz.prog 164 #[.agg r.toArray,.int .i64 i] w fun e w'=>e=.returned (.int .i64 (-1))/\Below w.heap.size w w':=by
 obtain⟨u0,rfl,-,a0⟩:=hx
 obtain⟨pa,pc,rfl⟩:=a0.form
 have d1:decide ((x.nodes.length:Int)<=i)=true:=decide_eq_true (by omega)
 clear a0
 go_enter Tryz.func164,Tryz.ntmps164
 go_wp2
 go_returns
 exact⟨rfl,by go_grown⟩
theorem l04PEnd_c (x:GData) (hL:x.nodes.length<=1152921504606846976):∀ (f i:Nat) (r:List Value) (lo:Nat) (w:World),GData.R lo w r x->x.nodes.length<i+f->
  Calls Tryz.prog 164 #[.agg r.toArray,.int .i64 i] w fun e w'=>e=.returned (.int .i64 (ends x.nodes f i))/\Below w.heap.size w w'
 |0,i,r,lo,w,hx,hf=>by rw[ends_out (by omega)];exact l04PEnd_out x i r lo w hx (by omega)
 |f+1,i,r,lo,w,hx,hf=>by
  have ih:=l04PEnd_c x hL f
  have Hx:=hx
  obtain⟨u0,rfl,-,a0⟩:=hx
  obtain⟨pa,pc,rfl⟩:=a0.form
  by_cases hlt:i<x.nodes.length
  ·have d1:decide ((x.nodes.length:Int)<=i)=false:=decide_eq_false (by omega)
   have d1' : decide (x.nodes.length<=i)=false:=decide_eq_false (by omega)
   obtain⟨pa',pc',he,-,-,h0⟩:=a0
   obtain⟨rfl,rfl⟩ : pa' = pa/\pc' = pc:=by injection he with a b c;exact⟨a.symm,c.symm⟩
   obtain⟨b1,o1,n,s1,_,rfl,P1,q1,r1⟩:=h0.get (kH rfl) hlt
   obtain⟨kv,rfl,-,k0⟩:=q1
   obtain⟨ka,kc,rfl,kl,km,k0⟩:=k0
   have hends:ends x.nodes (f+1) i=kidsEnd (ends x.nodes f) (i+1) n.kids:=by conv=>lhs;unfold ends;rw[P1.out]
   rw[hends]
   have R1:w.cell? ⟨b1,o1+i*4+3,none⟩=some (.slice ka n.kids.length kc):=by simpa using r1 3 _ rfl
   obtain⟨m,hm⟩ : ∃m,m=n.kids.length:=⟨_,rfl⟩
   rw[<- hm]at kl R1
   have X1:=kH hm
   clear hm hends r1 h0
   replace ih:=kH ih
   replace k0:=kH k0
   go_enter Tryz.func164,Tryz.ntmps164
   go_upto_region 1 with fail
   have B:RowAt (w.alloc (.cells #[.slice (some ⟨b1,o1,none⟩) x.nodes.length pc'] 177)) (w.heap.size) 0 [.slice (some ⟨b1,o1,none⟩) x.nodes.length pc']:=RowAt.box w #[.slice (some ⟨b1,o1,none⟩) x.nodes.length pc'] 177
   have hw:Below w.heap.size w (w.alloc (.cells #[.slice (some ⟨b1,o1,none⟩) x.nodes.length pc'] 177)):=by go_grown
   generalize (w.alloc (.cells #[.slice (some ⟨b1,o1,none⟩) x.nodes.length pc'] 177))=w0 at *
   replace R1:=cell_below hw R1
   have hb0:=B.box1
   go_wp2_with fail
   go_loopw [5,22] (fun nx ii wr=>∃ (j:Nat) (z:Nat),j<=m/\i+1<=z/\z<=x.nodes.length/\nx=.int .i64 z/\ii=.int .i64 j/\Hid (kidsEnd (ends x.nodes f) (i+1) n.kids=kidsEnd (ends x.nodes f) z (n.kids.drop j))/\Below w.heap.size w wr/\RowAt wr w.heap.size 0 [.slice (some ⟨b1,o1,none⟩) x.nodes.length pc']/\w.heap.size<wr.heap.size) (fun _ ii _=>m-(intOf ii).toNat)
   case atStart=>exact⟨0,i+1,by omega,by omega,by omega,by simp,rfl,by simp[Hid],hw,B,World.block_lt_of_cell? _ _ hb0⟩
   case round=>
    clear hb0 R1 B hw
    obtain⟨j,z,hj,hz1,hz2,rfl,rfl,hK,hw,B,hs⟩:=hrel
    have hb0:=B.box1
    by_cases hjm:j<m
    ·obtain⟨b2,o2,k,s2,_,rfl,P2,⟨rfl,hk64⟩,r2⟩:=((k0.out.below IntR.good hw).get X1 hjm)
     have e0:wr.cell? ⟨b2,o2+j,none⟩=some (.int .i64 k):=by simpa using r2 0 _ rfl
     have hdrop:n.kids.drop j=k :: n.kids.drop (j+1):=by
      obtain⟨hjl,he⟩:=List.getElem?_eq_some_iff.1 P2.out
      rw[List.drop_eq_getElem_cons hjl,he]
     rw[hdrop]at hK
     clear r2 hdrop
     by_cases hkz:k=z
     ·subst hkz
      have hK1:kidsEnd (ends x.nodes f) (z:Int) (((z:Nat):Int) :: n.kids.drop (j+1))=(if ends x.nodes f z<0 then -1 else kidsEnd (ends x.nodes f) (ends x.nodes f z) (n.kids.drop (j+1))):=by
       conv=>lhs;unfold kidsEnd
       simp
      rw[Hid,hK1]at hK
      replace hK:=kH hK
      clear hK1
      have c1:=fun W hW=>ih.out z [.slice (some ⟨b1,o1,none⟩) x.nodes.length pc'] lo W hW (by omega)
      have hr:=ends_range x.nodes f z
      generalize ends x.nodes f z=e at *
      replace hr:=kH hr
      have hd:((z:Int) != z)=false:=by simp
      go_wp2_with fail
      refine(c1 _ (GData.good.below Hx hw)).mono ?_
      rintro e' w2 ⟨rfl,hb⟩
      have hw2:=hw.trans (hb.mono hw.size)
      have B2:=B.below hb
      have hs2:=Nat.lt_of_lt_of_le hs hb.size
      clear hb hb0 e0 B hw hs
      by_cases he:e<0
      ·have d2:decide (e<0)=true:=decide_eq_true he
       rw[Hid,if_pos he]at hK
       replace hK:=kH hK
       clear hr c1 he
       go_wp2
       go_returns
       exact⟨by rw[hK.out];rfl,hw2⟩
      ·have d2:decide (e<0)=false:=decide_eq_false he
       rw[Hid,if_neg he]at hK
       have hr':=hr.out (by omega)
       obtain⟨z',rfl⟩ : ∃z' : Nat,e=z':=⟨e.toNat,by omega⟩
       replace hK:=kH hK
       clear hr c1 he
       go_wp2
       go_roundw
       case rel=>exact⟨j+1,z',by omega,by omega,by omega,rfl,by go_num,hK,hw2,B2,hs2⟩
       case measure=>simp[intOf];omega
     ·have hK1:kidsEnd (ends x.nodes f) (z:Int) (k :: n.kids.drop (j+1)) = -1:=by
       conv=>lhs;unfold kidsEnd
       rw[if_pos hkz]
      rw[Hid,hK1]at hK
      replace hK:=kH hK
      clear hK1
      have hd:(k != (z:Int))=true:=by simpa using hkz
      clear hkz
      go_wp2
      go_returns
      exact⟨by rw[hK.out];rfl,hw⟩
    ·obtain rfl:j=m:=by omega
     rw[Hid,X1.out,List.drop_length]at hK
     replace hK:=kH (hK.trans (by unfold kidsEnd;rfl:_=(z:Int)))
     go_wp2
     go_returns
     exact⟨by rw[hK.out];rfl,hw⟩
  ·rw[ends_out (by omega)];exact l04PEnd_out x i _ lo w Hx (by omega)
theorem l04PNode_c (x:GDNode) (d:GData) (hd:d.nodes.length<=1152921504606846976) (r1 r2:List Value) (lo1 lo2:Nat) (w:World) (hr1:GData.R lo1 w r1 d) (hr2:GDNode.R lo2 w r2 x) :
  Calls Tryz.prog 163 #[.agg r1.toArray,.agg r2.toArray] w fun e w'=>e=.returned (.bool (pnOk d.nodes x))/\Below w.heap.size w w':=by
 obtain⟨kd,nn,s,ks⟩:=x
 obtain⟨u0,rfl,-,a0⟩:=hr1
 obtain⟨v0,rfl,hwf,b0⟩:=hr2
 obtain⟨da,dc,rfl,dl,dm,h0⟩:=a0
 obtain⟨ka,kc,rfl,kl,km,k0⟩:=b0
 have hnn:I64 nn:=hwf.2.1
 have hss:StrOk s:=hwf.2.2
 dsimp only at *
 obtain⟨m,hm⟩ : ∃m,m=ks.length:=⟨_,rfl⟩
 obtain⟨n,hn⟩ : ∃n,n=d.nodes.length:=⟨_,rfl⟩
 rw[<- hm]at kl ⊢
 rw[<- hn]at dl hd ⊢
 replace hm:=kH hm;replace hn:=kH hn;replace k0:=kH k0;replace h0:=kH h0
 show Calls Tryz.prog 163 #[.agg #[.slice da n dc],.agg #[.int .i64 kd,.int .i64 nn,.string s,.slice ka m kc]] w _
 clear hwf
 have hC:=pnOk_kind d.nodes kd nn s ks
 generalize pnOk d.nodes ⟨kd,nn,s,ks⟩=q at hC ⊢
 replace hC:=kH hC
 go_enter Tryz.func163,Tryz.ntmps163
 go_upto_region 1 with fail
 have D:RowAt (w.alloc (.cells #[.slice da n dc] 177)) (w.heap.size) 0 [.slice da n dc]:=RowAt.box w #[.slice da n dc] 177
 have D:=D.below (show Below (w.alloc (.cells #[.slice da n dc] 177)).heap.size (w.alloc (.cells #[.slice da n dc] 177)) ((w.alloc (.cells #[.slice da n dc] 177)).alloc (.cells #[.int .i64 kd,.int .i64 nn,.string s,.slice ka m kc] 220)) by go_grown)
 have N:RowAt ((w.alloc (.cells #[.slice da n dc] 177)).alloc (.cells #[.int .i64 kd,.int .i64 nn,.string s,.slice ka m kc] 220)) (w.heap.size+1) 0 [.int .i64 kd,.int .i64 nn,.string s,.slice ka m kc]:=by have h:=RowAt.box (w.alloc (.cells #[.slice da n dc] 177)) #[.int .i64 kd,.int .i64 nn,.string s,.slice ka m kc] 220;simp only[World.size_alloc]at h;exact h
 have hw:Below w.heap.size w ((w.alloc (.cells #[.slice da n dc] 177)).alloc (.cells #[.int .i64 kd,.int .i64 nn,.string s,.slice ka m kc] 220)):=by go_grown
 generalize ((w.alloc (.cells #[.slice da n dc] 177)).alloc (.cells #[.int .i64 kd,.int .i64 nn,.string s,.slice ka m kc] 220))=w0 at *
 generalize hp:pairOf d.nodes ks=p
 replace hp:=kH hp
 go_cut [5] (fun sx wx=>sx=.bool p/\Below w.heap.size w wx/\RowAt wx w.heap.size 0 [.slice da n dc]/\RowAt wx (w.heap.size+1) 0 [.int .i64 kd,.int .i64 nn,.string s,.slice ka m kc])
 case first=>
  have d_0:=D.box1;have hsD:=bLt d_0;obtain⟨n_0,n_1,n_2,n_3⟩:=N.box4;have hsN:=bLt n_0
  by_cases h1:m=1
  ·subst h1
   obtain⟨b2,o2,j,s2,_,rfl,P2,⟨rfl,hj64⟩,r2⟩:=(k0.out.below IntR.good hw).get (k:=0) hm (by omega)
   have e1:w0.cell? ⟨b2,o2,none⟩=some (.int .i64 j):=by simpa using r2 0 _ rfl
   have hbj:=World.block_lt_of_cell? _ _ e1
   dsimp only at hbj
   have hks:ks=[j]:=by
    obtain⟨y,rfl⟩:=List.length_eq_one_iff.1 hm.out.symm
    have:=P2.out
    simpa using this
   have hp' : (kindAt d.nodes j == 5)=p:=by rw[<- hp.out,hks];rfl
   clear r2 P2 hks
   by_cases hj0:0<=j
   ·obtain⟨i,rfl⟩ : ∃i:Nat,j=i:=⟨j.toNat,by omega⟩
    have hd0:decide ((0:Int)<=(i:Int))=true:=by simp
    by_cases hj1:i<n
    ·obtain⟨b3,o3,y,s3,_,rfl,P3,hy,r3⟩:=(h0.out.below GDNode.good hw).get hn hj1
     obtain⟨y0,rfl,-,-⟩:=hy
     have e2:w0.cell? ⟨b3,o3+i*4,none⟩=some (.int .i64 y.kind):=by simpa using r3 0 _ rfl
     have hb3:=World.block_lt_of_cell? _ _ e2
     dsimp only at hb3
     have hp5:(y.kind == 5)=p:=by
      rw[<- hp']
      unfold kindAt
      simp[P3.out]
     generalize y.kind=yk at *
     replace hp5:=kH hp5
     have hd1:decide ((i:Int)<(n:Int))=true:=decide_eq_true (by omega)
     have hd1' : decide (i<n)=true:=decide_eq_true (by omega)
     clear hp' r3 P3
     (refine wp_region_ext_lit (by kernel_rfl) (by kernel_rfl) ?_;(repeat (any_goals (first|go_big_quiet_step ((first|fail))|quiet_step ((first|fail))|(refine wpQuiet_step (fun K hK=>?_);go_simp;split<;>(refine hK _ ?_;clear hK K)))));all_goals (refine wpQuiet_nil ?_;rintro w1 ⟨⟨w2,hb⟩,rfl⟩;have hw:=hw.trans (hb.mono hw.size);have D:=D.below hb;have d_0:=D.box1;have hsD:=bLt d_0;have N:=N.below hb;obtain⟨n_0,n_1,n_2,n_3⟩:=N.box4;have hsN:=bLt n_0;clear hb))
     all_goals go_wp2_with fail
     all_goals go_meet
     all_goals exact⟨by rw[<- hp5.out],hw,D,N⟩
    ·have hp5:false=p:=by
      rw[<- hp']
      unfold kindAt
      rw[List.getElem?_eq_none (by have:=hn.out;omega)]
      simp
     subst hp5
     have hd1:decide ((i:Int)<(n:Int))=false:=decide_eq_false (by omega)
     have hd1' : decide (i<n)=false:=decide_eq_false (by omega)
     clear hp'
     (refine wp_region_ext_lit (by kernel_rfl) (by kernel_rfl) ?_;(repeat (any_goals (first|go_big_quiet_step ((first|fail))|quiet_step ((first|fail))|(refine wpQuiet_step (fun K hK=>?_);go_simp;split<;>(refine hK _ ?_;clear hK K)))));all_goals (refine wpQuiet_nil ?_;rintro w1 ⟨⟨w2,hb⟩,rfl⟩;have hw:=hw.trans (hb.mono hw.size);have D:=D.below hb;have d_0:=D.box1;have hsD:=bLt d_0;have N:=N.below hb;obtain⟨n_0,n_1,n_2,n_3⟩:=N.box4;have hsN:=bLt n_0;clear hb))
     all_goals go_wp2_with fail
     all_goals go_meet
     all_goals exact⟨rfl,hw,D,N⟩
   ·have hp5:false=p:=by
     rw[<- hp']
     unfold kindAt
     rw[if_neg hj0];rfl
    subst hp5
    have hd0:decide ((0:Int)<=j)=false:=decide_eq_false hj0
    clear hp' hj0
    (refine wp_region_ext_lit (by kernel_rfl) (by kernel_rfl) ?_;(repeat (any_goals (first|go_big_quiet_step ((first|fail))|quiet_step ((first|fail))|(refine wpQuiet_step (fun K hK=>?_);go_simp;split<;>(refine hK _ ?_;clear hK K)))));all_goals (refine wpQuiet_nil ?_;rintro w1 ⟨⟨w2,hb⟩,rfl⟩;have hw:=hw.trans (hb.mono hw.size);have D:=D.below hb;have d_0:=D.box1;have hsD:=bLt d_0;have N:=N.below hb;obtain⟨n_0,n_1,n_2,n_3⟩:=N.box4;have hsN:=bLt n_0;clear hb))
    all_goals go_wp2_with fail
    all_goals go_meet
    all_goals exact⟨rfl,hw,D,N⟩
  ·have hp5:false=p:=by
    rw[<- hp.out]
    unfold pairOf
    have:=hm.out
    match ks,this with
    |[],_=>rfl
    |[a],h=>exact absurd h h1
    |a :: b :: c,_=>rfl
   subst hp5
   have e1:((m:Int) == 1)=false:=by simp;omega
   clear h1
   (refine wp_region_ext_lit (by kernel_rfl) (by kernel_rfl) ?_;(repeat (any_goals (first|go_big_quiet_step ((first|fail))|quiet_step ((first|fail))|(refine wpQuiet_step (fun K hK=>?_);go_simp;split<;>(refine hK _ ?_;clear hK K)))));all_goals (refine wpQuiet_nil ?_;rintro w1 ⟨⟨w2,hb⟩,rfl⟩;have hw:=hw.trans (hb.mono hw.size);have D:=D.below hb;have d_0:=D.box1;have hsD:=bLt d_0;have N:=N.below hb;obtain⟨n_0,n_1,n_2,n_3⟩:=N.box4;have hsN:=bLt n_0;clear hb))
   all_goals go_wp2_with fail
   all_goals go_meet
   all_goals exact⟨rfl,hw,D,N⟩
 obtain⟨rfl,hw,D,N⟩:=hcut
 have d_0:=D.box1;have hsD:=bLt d_0;obtain⟨n_0,n_1,n_2,n_3⟩:=N.box4;have hsN:=bLt n_0
 have hC:=hC.out
 rw[hp.out,<- hm.out]at hC
 have c70:=fun W=>l04ConOk_c s m p hss W
 have c71:=fun W=>spec_NameOk_c s hss W
 generalize conShape s m p=cs at *
 generalize nameOk s=no at *
 clear hm hp k0 h0 hn
 rcases hC with⟨h,rfl⟩|⟨rfl,rfl⟩|⟨rfl,hq⟩|⟨rfl,rfl⟩|⟨rfl,rfl⟩|⟨h1,h6,h2,h3,h4,h5,rfl⟩
 ·rcases h with rfl|rfl
  all_goals cases e0:((m:Int) == 0)<;>cases e1:(nn == 0)<;>cases e2:s.toList.isEmpty
  all_goals go_wp2_with fail
  all_goals go_returns
  all_goals exact⟨by first|rfl|(simp;done)|(simp_all;done),hw⟩
 ·cases e0:((m:Int) == 0)<;>cases e1:(nn == 0)<;>cases no
  all_goals go_wp2_with (go_at_call 89;((with_reducible refine(c71 _).mono ?_);rintro e w1 ⟨rfl,hb⟩;have hw:=hw.trans (hb.mono hw.size);have D:=D.below hb;have d_0:=D.box1;have hsD:=bLt d_0;have N:=N.below hb;obtain⟨n_0,n_1,n_2,n_3⟩:=N.box4;have hsN:=bLt n_0;clear hb))
  all_goals go_returns
  all_goals exact⟨by first|rfl|(simp;done)|(simp_all;done),hw⟩
 ·by_cases hr1:(-4611686018427387903:Int)<=nn
  ·by_cases hr2:nn<=4611686018427387903
   ·rw[decide_eq_true (⟨hr1,hr2⟩ : (-4611686018427387903:Int)<=nn/\nn<=4611686018427387903)]at hq;subst hq
    have hq1:=decide_eq_true hr1;have hq2:=decide_eq_true hr2
    clear hr1 hr2
    cases e0:((m:Int) == 0)<;>cases e2:s.toList.isEmpty
    all_goals go_wp2_with fail
    all_goals go_returns
    all_goals exact⟨by first|rfl|(simp;done)|(simp_all;done),hw⟩
   ·rw[decide_eq_false (fun h:(-4611686018427387903:Int)<=nn/\nn<=4611686018427387903=>hr2 h.2)]at hq;subst hq
    have hq1:=decide_eq_true hr1;have hq2:=decide_eq_false hr2
    clear hr1 hr2
    go_wp2_with fail
    go_returns
    exact⟨by simp,hw⟩
  ·rw[decide_eq_false (fun h:(-4611686018427387903:Int)<=nn/\nn<=4611686018427387903=>hr1 h.1)]at hq;subst hq
   have hq1:=decide_eq_false hr1
   clear hr1
   go_wp2_with fail
   go_returns
   exact⟨by simp,hw⟩
 ·cases e1:(nn == 0)<;>cases cs
  all_goals go_wp2_with (go_at_call 50;((with_reducible refine(c70 _).mono ?_);rintro e w1 ⟨rfl,rfl⟩))
  all_goals go_returns
  all_goals exact⟨by first|rfl|(simp;done)|(simp_all;done),hw⟩
 ·cases e0:((m:Int) == 2)<;>cases e1:(nn == 0)<;>cases e2:s.toList.isEmpty
  all_goals go_wp2_with fail
  all_goals go_returns
  all_goals exact⟨by first|rfl|(simp;done)|(simp_all;done),hw⟩
 ·go_wp2_with fail
  go_returns
  exact⟨by first|rfl|(simp;done)|(simp_all;done),hw⟩
end Go.Proofs.YtkikkfjmggobpaaGreat
