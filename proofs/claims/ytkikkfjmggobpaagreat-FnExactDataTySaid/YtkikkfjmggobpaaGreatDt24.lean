/- Parts of the proof, merged: Ut8, Flt2, Dx2, Dx3, DtY2, Ut12. -/
import Derived.Test.YtkikkfjmggobpaaGreatDt23
namespace Go.Proofs.YtkikkfjmggobpaaGreat
open Go.RowKit
set_option maxRecDepth 100000
set_option maxHeartbeats 16000000
set_option linter.unusedVariables false
set_option linter.unusedSimpArgs false
attribute [local go_sem] Ext.cell
theorem fail_c {b:Nat} {P0 P1 P2 P3:Value} {w:World} {cd at_:Int} (R:RowAt w b 0 [P0,P1,P2,P3,.int .i64 cd,.int .i64 at_]) (RW:Wr w b 0 6) (c a:Int) :
  Calls Tryz.prog 120 #[.pointer (some ⟨b,0,none⟩),.int .i64 c,.int .i64 a] w fun e w'=>e=.returned (.bool false)/\RowAt w' b 0 [P0,P1,P2,P3,.int .i64 (if cd=0 then c else cd),.int .i64 (if cd=0 then a else at_)]/\Wr w' b 0 6/\IFr b w w':=by
 obtain⟨s_0,s_1,s_2,s_3,s_4,s_5⟩:=R.box6
 have sf_4:=RW.frz 4 (by omega)
 have sf_5:=RW.frz 5 (by omega)
 have hlt:=World.block_lt_of_cell? _ _ s_0;dsimp only at hlt
 by_cases h0:cd=0
 ·rw[if_pos h0,if_pos h0]
  rw[h0]at s_4
  have R':=(R.putAt (j:=4) (by simp) (.int .i64 c)).putAt (j:=5) (by simp) (.int .i64 a)
  have RW':=(RW.set 4 (.int .i64 c)).set 5 (.int .i64 a)
  replace R':=kH R';replace RW':=kH RW'
  clear R RW h0
  go_enter Tryz.func120,Tryz.ntmps120
  go_wp2_with fail
  go_returns
  exact⟨rfl,R'.out,RW'.out,((IFr.refl b w).set 4 _).set 5 _⟩
 ·rw[if_neg h0,if_neg h0]
  have d0:(cd == 0)=false:=beq_eq_false_iff_ne.2 h0
  go_enter Tryz.func120,Tryz.ntmps120
  go_wp2_with fail
  go_returns
  exact⟨rfl,R,RW,IFr.refl b w⟩
theorem failS_c {b:Nat} {P0 P1 lv:Value} {w:World} {s:IS} (S:SB b P0 P1 w s lv) (c a:Int) (hc:0<c) :
  Calls Tryz.prog 120 #[.pointer (some ⟨b,0,none⟩),.int .i64 c,.int .i64 a] w fun e w'=>e=.returned (.bool false)/\SB b P0 P1 w' (s.fault c a) lv/\IFr b w w':=by
 refine(fail_c S.row S.wr c a).mono ?_
 rintro e w' ⟨rfl,h1,h2,h3⟩
 refine⟨rfl,⟨?_,h2,S.form,fun h=>absurd h (IS.fault_cd hc)⟩,h3⟩
 unfold IS.fault
 split
 ·rename_i h0;rw[if_pos h0,if_pos h0]at h1;exact h1
 ·rename_i h0;rw[if_neg h0,if_neg h0]at h1;exact h1
theorem fresh_c {b:Nat} {P0 P1 lv:Value} {w:World} {s:IS} (S:SB b P0 P1 w s lv) (hn:s.nx<=999999) :
  Calls Tryz.prog 121 #[.pointer (some ⟨b,0,none⟩)] w fun e w'=>∃v,e=.returned v/\SB b P0 P1 w' s.new lv/\OwnT w.heap.size w' v (flatY (.v s.nx))/\IFr b w w':=by
 have hlt:=S.lt
 obtain⟨⟨s_0,s_1,s_2,s_3,s_4,s_5⟩,sf_2,sf_3,sf_4,sf_5⟩:=S.cells
 go_enter Tryz.func121,Tryz.ntmps121
 go_upto_region 2 with fail
 obtain⟨w1,hW1⟩ : ∃W,W=w.setCell ⟨b,3,none⟩ (.int .i64 ((s.nx:Int)+1)):=⟨_,rfl⟩
 rw[<- hW1]
 have S1:SB b P0 P1 w1 s.new lv:=by rw[hW1];exact S.nx (s.nx+1)
 have F1:IFr b w w1:=by rw[hW1];exact(IFr.refl b w).set 3 _
 have hz1:w1.heap.size=w.heap.size:=by rw[hW1];simp
 clear hW1 s_0 s_1 s_2 s_3 s_4 s_5 sf_2 sf_3 sf_4 sf_5
 obtain⟨⟨s_0,s_1,s_2,s_3,s_4,s_5⟩,-⟩:=S1.cells
 replace s_3:w1.cell? ⟨b,3,none⟩=some (.int .i64 ((s.nx:Int)+1)):=s_3
 replace hz1:=kH hz1
 go_wp2_with fail
 go_returns
 have hb2:Below w1.heap.size w1 (w1.alloc (.cells #[.int .i64 (s.nx:Int),.string ⟨#[]⟩,.int .i64 0] 107)):=by go_grown
 refine⟨_,rfl,S1.below hb2,?_,F1.grow hb2 (by have:=hz1.out;omega)⟩
 refine⟨own_new w1 #[.int .i64 (s.nx:Int),.string ⟨#[]⟩,.int .i64 0] 107 3 1 rfl (by decide) w.heap.size (by rw[hz1.out];exact Nat.le_refl _),fun x hx=>?_⟩
 simp only[flatY,List.mem_singleton]at hx
 subst hx
 exact⟨by dsimp only[I64];omega,by dsimp only[StrOk];decide,by dsimp only[I64];omega⟩
theorem SB.of_row {b:Nat} {P0 P1 lv:Value} {w:World} {s:IS} (R:RowAt w b 0 [P0,P1,lv,.int .i64 (s.nx:Int),.int .i64 s.cd,.int .i64 s.at_]) (RW:Wr w b 0 6) (hf:∃a n c,lv=.slice a n c) (hs:s.cd=0->Sl SubR 2 (b+1) w lv s.sub):SB b P0 P1 w s lv:=⟨R,RW,hf,hs⟩
def SmPost (b:Nat) (P0 P1:Value) (D:IS) (w:World) (e:Ending) (w' : World):Prop:=e=.returned (.bool (decide (D.cd=0)))/\∃lv',SB b P0 P1 w' D lv'/\IFr b w w'
theorem same_c {b m:Nat} {P0 P1 lv av cv:Value} {w:World} {s:IS} {x y:TyT} (S:SB b P0 P1 w s lv) (hg:s.Good) (hn:s.nx<=1000000) (hm:m<=1000000) (hx:TV b m s.cd w av x) (hy:TV b m s.cd w cv y) (ix:s.cd=0->TyIn s x) (iy:s.cd=0->TyIn s y) (a:Int) (ha:I64 a) :
  Calls Tryz.prog 77 #[.pointer (some ⟨b,0,none⟩),av,cv,.int .i64 a] w (SmPost b P0 P1 (s.demand x y a) w):=by
 have hlt:=S.lt
 have hpost:∀W lv',SB b P0 P1 W (s.demand x y a) lv'->IFr b w W->SmPost b P0 P1 (s.demand x y a) w (.returned (.bool (decide ((s.demand x y a).cd=0)))) W:=fun W lv' h1 h2=>⟨rfl,lv',h1,h2⟩
 obtain⟨xa,xn,xc,rfl⟩:=hx.form
 obtain⟨ya,yn,yc,rfl⟩:=hy.form
 obtain⟨la,ln,lc,rfl⟩:=S.form
 obtain⟨⟨s_0,s_1,s_2,s_3,s_4,s_5⟩,sf_2,sf_3,sf_4,sf_5⟩:=S.cells
 by_cases h0:s.cd=0
 rotate_left
 ·rw[IS.demand_skip h0]at hpost ⊢
  generalize SmPost b P0 P1 s w=Q at *
  have d0:(s.cd != 0)=true:=by simpa using h0
  have d1:decide (s.cd=0)=false:=decide_eq_false h0
  have hp:=hpost w _ S (IFr.refl b w)
  rw[d1]at hp
  replace hp:=kH hp
  clear hpost hx hy ix iy hg
  go_enter Tryz.func77,Tryz.ntmps77
  go_wp2_with fail
  exact hp.out
 obtain⟨g1,g2⟩:=hg.sub h0
 have hxs:=hx.good h0
 have hys:=hy.good h0
 have hxz:szY x<=m:=by obtain⟨l,_,h2,h3⟩:=hx;rw[h3 h0,flatY_len]at h2;exact h2
 have hyz:szY y<=m:=by obtain⟨l,_,h2,h3⟩:=hy;rw[h3 h0,flatY_len]at h2;exact h2
 have hX:=sz_sub (σ:=s.sub) g1.sz x
 have hY:=sz_sub (σ:=s.sub) g1.sz y
 have hls:=S.sl h0
 have cP:∀W (tv:Value) (t:TyT),szY (subY s.sub t)<=1000000000->NamesY t->Sl GTyItem.R 3 (b+1) w tv (flatY t)->Below w.heap.size w W->Calls Tryz.prog 72 #[tv,.slice la ln lc] W (fun e w'=>∃a2 c2,e=.returned (.slice a2 (szY (subY s.sub t)) c2)/\Below W.heap.size W w'):=fun W tv t h1 h2 h3 hW=>by
  refine(put_c (flatY t) s.sub (by rw[putL_flat _ _ h2,flatY_len];exact h1) tv _ W ((h3.below GTyItem.good hW).mono GTyItem.good (Nat.zero_le _)) ((hls.below SubR.good hW).mono SubR.good (Nat.zero_le _))).mono ?_
  rintro e w' ⟨v,rfl,h4,h5⟩
  obtain⟨a2,c2,rfl⟩:=h4.form
  rw[putL_flat _ _ h2,flatY_len]
  exact⟨a2,c2,rfl,h5⟩
 have cPx:=fun W (hW:Below w.heap.size w W)=>cP W _ x (by omega) (ix h0).2 hxs hW
 have cPy:=fun W (hW:Below w.heap.size w W)=>cP W _ y (by omega) (iy h0).2 hys hW
 have hbig:(200<szY (subY s.sub x)\/200<szY (subY s.sub y))->s.demand x y a=s.fault 26 a:=fun h=>by
  unfold IS.demand
  by_cases hx2:200<szY (subY s.sub x)
  ·have e1:s.big x a=s.fault 26 a:=by unfold IS.big;rw[if_pos ⟨h0,hx2⟩]
   have e2:(s.fault 26 a).cd≠0:=IS.fault_cd (by omega)
   rw[e1,IS.big_skip e2,if_neg e2]
  ·have hy2:200<szY (subY s.sub y):=by rcases h with h|h;exact absurd h hx2;exact h
   have e1:s.big x a=s:=by unfold IS.big;rw[if_neg (fun h=>hx2 h.2)]
   have e3:s.big y a=s.fault 26 a:=by unfold IS.big;rw[if_pos ⟨h0,hy2⟩]
   have e2:(s.fault 26 a).cd≠0:=IS.fault_cd (by omega)
   rw[e1,e3,if_neg e2]
 have hsm : ¬ 200<szY (subY s.sub x)->¬ 200<szY (subY s.sub y)->s.demand x y a=(if (unifyY x y s.sub).1=0 then ⟨(unifyY x y s.sub).2,s.nx,0,s.at_⟩ else s.fault (22+(unifyY x y s.sub).1) a)/\(0<=(unifyY x y s.sub).1/\(unifyY x y s.sub).1<=4)/\
   ∀W,Below w.heap.size w W->Calls Tryz.prog 122 #[.pointer (some ⟨b,2,none⟩),.slice xa xn xc,.slice ya yn yc] W (BdPost b P0 P1 (.int .i64 (s.nx:Int)) (.int .i64 0) (.int .i64 s.at_) (unifyY x y s.sub) W):=fun h1 h2=>by
  have e1:s.big x a=s:=by unfold IS.big;rw[if_neg (fun h=>h1 h.2)]
  have e3:s.big y a=s:=by unfold IS.big;rw[if_neg (fun h=>h2 h.2)]
  obtain⟨f,hf⟩:=unifyY_is (by omega) g1 (ix h0).1 (iy h0).1
  refine⟨by unfold IS.demand;rw[e1,e3,if_pos h0],unify_code _ _ _ _ _ _ hf,fun W hW=>?_⟩
  have SW:=S.below hW
  exact unify_all s.nx (by omega) (by omega) f x y s.sub _ hf g1 (ix h0).1 (iy h0).1 (ix h0).2 (iy h0).2 g2 (SmY.of (Nat.le_trans (subY_sz (σ:=s.sub) x) (by omega))) (SmY.of (Nat.le_trans (subY_sz (σ:=s.sub) y) (by omega))) _ _ _ W (by have:=SW.row;rw[h0]at this;exact this) SW.wr (hxs.below GTyItem.good hW) (hys.below GTyItem.good hW) (SW.sl h0)
 have cF:∀W,Below w.heap.size w W->Calls Tryz.prog 120 #[.pointer (some ⟨b,0,none⟩),.int .i64 26,.int .i64 a] W fun e w'=>e=.returned (.bool false)/\SB b P0 P1 w' (s.fault 26 a) (.slice la ln lc)/\IFr b W w':=fun W hW=>failS_c (S.below hW) 26 a (by omega)
 have hfc:∀k:Int,0<k->decide ((s.fault k a).cd=0)=false:=fun k hk=>decide_eq_false (IS.fault_cd hk)
 have hfe:∀k:Int,s.fault k a=⟨s.sub,s.nx,k,a⟩:=fun k=>if_pos h0
 generalize hD:s.demand x y a=D at *
 generalize hU:unifyY x y s.sub=U at *
 generalize szY (subY s.sub x)=zx at *
 generalize szY (subY s.sub y)=zy at *
 generalize hQ:SmPost b P0 P1 D w=Q at *
 rw[h0]at s_4
 have hz:=S.lt
 replace hpost:=kH hpost;replace cP:=kH cP;replace cPx:=kH cPx;replace cPy:=kH cPy;replace hbig:=kH hbig;replace hsm:=kH hsm;replace cF:=kH cF;replace hfc:=kH hfc;replace hfe:=kH hfe;replace hD:=kH hD;replace hU:=kH hU;replace hQ:=kH hQ;replace h0:=kH h0
 clear hx hy ix iy hxs hys hls g1 g2 hg hX hY hxz hyz
 go_enter Tryz.func77,Tryz.ntmps77
 go_upto_region 3 with fail
 by_cases hx2:200<zx
 ·obtain rfl:=(hbig.out (.inl hx2))
  have dx:decide ((200:Int)<(zx:Int))=true:=decide_eq_true (by omega)
  have hf:=hfc.out 26 (by omega)
  rw[hf]at hpost
  replace hf:=kH hf
  clear hbig hsm cPy
  go_wp2_with (first
   |(go_at_call 72;(with_reducible refine(cPx.out _ (Below.refl _ _)).mono ?_);rintro e w2 ⟨a2,c2,rfl,hb2⟩;have cF2:=cF.out w2 hb2;have F2:=IFr.of hb2 (Nat.le_of_lt hlt))
   |(go_at_call 120;(with_reducible refine cF2.mono ?_);rintro e w3 ⟨rfl,S3,F3⟩))
  exact hpost.out _ _ S3 (F2.trans F3)
 ·have dx:decide ((200:Int)<(zx:Int))=false:=decide_eq_false (by omega)
  by_cases hy2:200<zy
  ·obtain rfl:=(hbig.out (.inr hy2))
   have dy:decide ((200:Int)<(zy:Int))=true:=decide_eq_true (by omega)
   have hf:=hfc.out 26 (by omega)
   rw[hf]at hpost
   replace hf:=kH hf
   clear hbig hsm
   go_wp2_with (first
    |(go_at_call 72;first
     |((with_reducible refine(cPx.out _ (Below.refl _ _)).mono ?_);rintro e w2 ⟨a2,c2,rfl,hb2⟩;obtain⟨⟨t_0,t_1,t_2,t_3,t_4,t_5⟩,-⟩:=(S.below hb2).cells)
     |((with_reducible refine(cPy.out _ hb2).mono ?_);rintro e w3 ⟨a3,c3,rfl,hb3⟩;have hb23:=hb2.trans (hb3.mono hb2.size);have cF2:=cF.out w3 hb23;have F2:=IFr.of hb23 (Nat.le_of_lt hlt)))
    |(go_at_call 120;(with_reducible refine cF2.mono ?_);rintro e w4 ⟨rfl,S3,F3⟩))
   exact hpost.out _ _ S3 (F2.trans F3)
  ·have dy:decide ((200:Int)<(zy:Int))=false:=decide_eq_false (by omega)
   obtain⟨h3,h4,h5⟩:=hsm.out hx2 hy2
   obtain⟨uc,us⟩:=U
   dsimp only at h3 h4 h5
   unfold BdPost at h5
   dsimp only at h5
   replace h3:=kH h3;replace h5:=kH h5
   clear hbig hsm cF
   go_upto_region 6 with(first
    |(go_at_call 72;first
     |((with_reducible refine(cPx.out _ (Below.refl _ _)).mono ?_);rintro e w2 ⟨a2,c2,rfl,hb2⟩;obtain⟨⟨t_0,t_1,t_2,t_3,t_4,t_5⟩,-⟩:=(S.below hb2).cells)
     |((with_reducible refine(cPy.out _ hb2).mono ?_);rintro e w3 ⟨a3,c3,rfl,hb3⟩;have hb23:=hb2.trans (hb3.mono hb2.size);have h6:=h5.out w3 hb23;have F2:=IFr.of hb23 (Nat.le_of_lt hlt)))
    |(go_at_call 122;(with_reducible refine h6.mono ?_);rintro e w4 ⟨lv4,rfl,R4,R4W,hf4,hs4,F4⟩))
   by_cases hu:uc=0
   ·subst hu
    have S4:SB b P0 P1 w4 D lv4:=by
     rw[h3.out,if_pos rfl]
     exact SB.of_row R4 R4W hf4 (fun _=>hs4 rfl)
    have hDc:decide (D.cd=0)=true:=by rw[h3.out,if_pos rfl];rfl
    rw[hDc]at hpost
    replace hDc:=kH hDc
    go_wp2_with fail
    exact hpost.out _ _ S4 (F2.trans F4)
   ·have hDf:D=s.fault (22+uc) a:=by rw[h3.out,if_neg hu]
    have hDc:decide (D.cd=0)=false:=by rw[hDf];exact hfc.out _ (by omega)
    rw[hDc]at hpost
    have d5:(uc != 0)=true:=by simpa using hu
    have cF4:=fail_c R4 R4W (uc+22) a
    have hw5:IntKind.i64.wrap (uc+22)=uc+22:=by rw[IntKind.wrap_i64];omega
    rw[if_pos rfl,if_pos rfl]at cF4
    have hS4:∀W,RowAt W b 0 [P0,P1,lv4,.int .i64 (s.nx:Int),.int .i64 (uc+22),.int .i64 a]->Wr W b 0 6->SB b P0 P1 W D lv4:=fun W h7 h8=>by
     rw[hDf,hfe.out,Int.add_comm]
     exact SB.of_row h7 h8 hf4 (fun h=>by dsimp only at h;omega)
    replace hDc:=kH hDc;replace hDf:=kH hDf;replace hS4:=kH hS4
    go_wp2_with (go_at_call 120;(with_reducible refine cF4.mono ?_);rintro e w5 ⟨rfl,R5,R5W,F5⟩)
    exact hpost.out _ _ (hS4.out _ R5 R5W) ((F2.trans F4).trans F5)
end Go.Proofs.YtkikkfjmggobpaaGreat
namespace Go.Proofs.YtkikkfjmggobpaaGreat
open Go.RowKit
set_option linter.unusedVariables false
set_option linter.unusedSimpArgs false
/-! How many nodes a right value's tree has. -/
mutual
def nT:PxT->Nat
 |.mk _ _ _ ks=>1+nTs ks
def nTs:List PxT->Nat
 |[]=>0
 |k :: ks=>nT k+nTs ks
end
theorem nTs_map:∀ (l:List PxT),nTs l=(l.map nT).sum
 |[]=>by rw[nTs];rfl
 |k :: l=>by rw[nTs,nTs_map l];rfl
theorem kidsEnd_nT {E:Nat->Int} {L:Int} (g:Nat->Nat) (hE:∀k,0<=E k->(k:Int)+1<=E k/\E k<=L) (hg:∀k,0<=E k->g k+k<=(E k).toNat):∀ (ks:List Int) (nx:Int),0<=nx->0<=kidsEnd E nx ks->
  (ks.map fun k=>g k.toNat).sum+nx.toNat<=(kidsEnd E nx ks).toNat
 |[],nx,h0,h=>by unfold kidsEnd;simp
 |k :: ks,nx,h0,h=>by
  unfold kidsEnd at h ⊢
  split at h
  ·omega
  ·split at h
   ·omega
   ·rename_i h1 h2
    have e:k=nx:=by omega
    subst e
    have h3:=hE k.toNat (by omega)
    have h4:=kidsEnd_nT g hE hg ks (E k.toNat) (by omega) h
    have h5:=hg k.toNat (by omega)
    rw[if_neg h1,if_neg h2]
    simp only[List.map_cons,List.sum_cons]
    omega
theorem nT_ends (l:List GDNode):∀ (F i f:Nat),0<=ends l F i->nT (treeOf l f i)+i<=(ends l F i).toNat
 |0,i,f,h=>by simp[ends]at h
 |F+1,i,f,h=>by
  have hr:=ends_range l (F+1) i h
  match f with
  |0=>
   have:nT (treeOf l 0 i)=1:=by unfold treeOf;rw[nT,nTs]
   omega
  |f+1=>
   unfold ends at h ⊢
   cases hx:l[i]? with
   |none=>rw[hx]at h;simp at h
   |some x=>
    rw[hx]at h
    have h1:=kidsEnd_nT (fun k=>nT (treeOf l f k)) (ends_range l F) (fun k hk=>nT_ends l F k f hk) x.kids (i+1) (by omega) h
    rw[treeOf_some hx,nT,nTs_map,List.map_map]
    have e2:(x.kids.map (nT ∘ fun k=>treeOf l f k.toNat))=x.kids.map fun k=>nT (treeOf l f k.toNat):=rfl
    rw[e2]
    show _<=(kidsEnd (ends l F) (i+1) x.kids).toNat
    omega
theorem nT_data {d:GData} (h:dataOk d=true):nT (treeOf d.nodes d.nodes.length 0)<=600:=by
 obtain⟨_,h0,h6⟩:=dataOk_up h
 unfold dataOk at h
 simp only[Bool.and_eq_true,decide_eq_true_eq]at h
 obtain⟨h1,h2,_⟩:=h
 rw[show kidsAt d.nodes=(fun i=>(d.nodes[i]?.map (·.kids)).getD []) from rfl,<- ends_eq]at h2
 have h3:=nT_ends d.nodes (d.nodes.length+1) 0 d.nodes.length (by omega)
 rw[h2,Int.toNat_natCast]at h3
 omega
/-! What right values' trees are. -/
def DSh (t:PxT):Prop:=(t.kind=2/\t.n=0/\t.kids=[])\/(t.kind=3/\t.s=⟨#[]⟩/\t.kids=[]/\-4611686018427387904<=t.n/\t.n<=4611686018427387903)\/(t.kind=6/\t.n=0/\t.s=⟨#[]⟩/\t.kids=[])\/(t.kind=5/\t.n=0/\t.s=⟨#[]⟩/\t.kids.length=2)\/(t.kind=4/\t.n=0/\t.kids.length<=1)
def DOkS:Nat->PxT->Prop
 |0,_=>False
 |f+1,t=>t.wf/\DSh t/\∀k∈t.kids,DOkS f k
theorem ba_nil {s:ByteArray} (h:s.toList.isEmpty=true):s=⟨#[]⟩:=by
 have h1:s.data.toList=[]:=by rw[<- ByteArray.toList_eq];exact List.isEmpty_iff.1 h
 have h2:s.data = #[]:=by rw[<- Array.toList_inj];exact h1
 cases s;simp only at h2;rw[h2]
theorem treeOf_doks (l:List GDNode) (hU:Up l) (hok:∀ (j:Nat) x,l[j]? = some x->nodeOk l x=true) (hwf:∀ (j:Nat) x,l[j]? = some x->x.wf):∀ (f i:Nat),i<l.length->l.length<=i+f->DOkS f (treeOf l f i)
 |0,i,hi,hf=>absurd hf (by omega)
 |f+1,i,hi,hf=>by
  obtain⟨x,hx⟩ : ∃x,l[i]? = some x:=⟨_,List.getElem?_eq_getElem hi⟩
  rw[treeOf_some hx]
  have hup:=hU i x hx
  have hn:=hok i x hx
  refine⟨hwf i x hx,?_,fun k hk=>?_⟩
  ·obtain⟨kd,nn,s,ks⟩:=x
   unfold DSh
   simp only[PxT.kind,PxT.kids,PxT.s,PxT.n]at *
   unfold nodeOk at hn
   dsimp only at hn
   split at hn
   ·simp only[Bool.and_eq_true,beq_iff_eq,decide_eq_true_eq]at hn
    obtain⟨h1,h2,h3⟩:=hn
    have:ks=[]:=List.length_eq_zero_iff.1 (by omega)
    subst this
    exact .inr (.inl ⟨by assumption,ba_nil h2,rfl,h3⟩)
   ·split at hn
    ·simp only[Bool.and_eq_true,beq_iff_eq,decide_eq_true_eq]at hn
     have:ks=[]:=List.length_eq_zero_iff.1 (by omega)
     subst this
     exact .inl ⟨by assumption,hn.2,rfl⟩
    ·split at hn
     ·simp only[Bool.and_eq_true,beq_iff_eq,decide_eq_true_eq]at hn
      have:ks=[]:=List.length_eq_zero_iff.1 (by omega)
      subst this
      exact .inr (.inr (.inl ⟨by assumption,hn.2.1,ba_nil hn.2.2,rfl⟩))
     ·split at hn
      ·simp only[Bool.and_eq_true,beq_iff_eq,decide_eq_true_eq]at hn
       exact .inr (.inr (.inr (.inl ⟨by assumption,hn.2.1,ba_nil hn.2.2,by rw[List.length_map];omega⟩)))
      ·split at hn
       ·simp only[Bool.and_eq_true,beq_iff_eq,decide_eq_true_eq]at hn
        have:=conShape_le hn.2
        exact .inr (.inr (.inr (.inr ⟨by assumption,hn.1,by rw[List.length_map];omega⟩)))
       ·cases hn
  ·obtain⟨k',hk',rfl⟩:=List.mem_map.1 hk
   have:=hup k' hk'
   exact treeOf_doks l hU hok hwf f k'.toNat (by omega) (by omega)
/-! The expression as the reference makes it. -/
/-! None of the nodes has patterns. -/
theorem nT_mk (kd n:Int) (s:ByteArray) (ks:List PxT):nT (.mk kd n s ks)=1+nTs ks:=by rw[nT]
theorem TyIn.c0 (s:IS) {name:ByteArray} (h:name.toList.isEmpty=false):TyIn s (.c0 name):=⟨fun k hk=>by simp[occY]at hk,h⟩
theorem nmInt_full:nmInt.toList.isEmpty=false:=by rw[ByteArray.toList_eq];rfl
theorem nmString_full:nmString.toList.isEmpty=false:=by rw[ByteArray.toList_eq];rfl
theorem nmUnit_full:nmUnit.toList.isEmpty=false:=by rw[ByteArray.toList_eq];rfl
theorem nmStar_full:nmStar.toList.isEmpty=false:=by rw[ByteArray.toList_eq];rfl
theorem lookY_ok {T:List GType} (hT:TysOk T) {s:IS} (hg:s.Good) (name:ByteArray) (one:Bool) {a:Int} (ha:I64 a) :
  (lookY T s name one a).2.2.Good/\s.nx<=(lookY T s name one a).2.2.nx/\(lookY T s name one a).2.2.nx<=s.nx+2/\((lookY T s name one a).2.2.cd=0->s.cd=0)/\
  ((lookY T s name one a).2.2.cd=0->TyIn (lookY T s name one a).2.2 (lookY T s name one a).1/\szY (lookY T s name one a).1<=3/\(one=true->TyIn (lookY T s name one a).2.2 (lookY T s name one a).2.1/\szY (lookY T s name one a).2.1<=40000)):=by
 unfold lookY
 cases hc:conI T name s.nx with
 |none=>
  dsimp only
  exact⟨hg.fault (by omega) ha,by rw[IS.fault_nx];exact Nat.le_refl _,by rw[IS.fault_nx];omega,fun h=>absurd h (IS.fault_cd (by omega)),fun h=>absurd h (IS.fault_cd (by omega))⟩
 |some c=>
  dsimp only
  obtain⟨h1,h2,h3⟩:=conI_parts hT hc
  by_cases ho:c.has=one
  ·rw[if_pos ho]
   dsimp only
   refine⟨hg.adv _,by show s.nx<=s.nx+c.many;omega,by show s.nx+c.many<=_;omega,fun h=>h,fun h=>⟨⟨h2.1,h2.2.1⟩,h2.2.2,fun h4=>?_⟩⟩
   have:=h3 (ho.trans h4)
   exact⟨⟨this.1,this.2.1⟩,this.2.2⟩
  ·rw[if_neg ho]
   dsimp only
   exact⟨hg.fault (by omega) ha,by rw[IS.fault_nx];exact Nat.le_refl _,by rw[IS.fault_nx];omega,fun h=>absurd h (IS.fault_cd (by omega)),fun h=>absurd h (IS.fault_cd (by omega))⟩
theorem lookY_sz {T:List GType} (hT:TysOk T) (s:IS) (name:ByteArray) (one:Bool) (a:Int):szY (lookY T s name one a).1<=3:=by
 unfold lookY
 cases hc:conI T name s.nx with
 |none=>simp[szY]
 |some c=>
  have:=(conI_parts hT hc).2.1.2.2
  dsimp only
  split
  ·exact this
  ·simp[szY]
theorem demand_cd {s:IS} {x y:TyT} {a:Int} (h:(s.demand x y a).cd=0):s.cd=0:=by
 by_cases h0:s.cd=0
 ·exact h0
 ·rw[IS.demand_skip h0]at h;exact h
theorem i64_zero:I64 0:=⟨by decide,by decide⟩
structure DtOk (T:List GType) (f:Nat) (t:PxT) (s:IS):Prop where
 good:(dataY T f t s).2.Good
 lo:s.nx<=(dataY T f t s).2.nx
 hi:(dataY T f t s).2.nx<=s.nx+2*nT t
 cd:(dataY T f t s).2.cd=0->s.cd=0
 ty:(dataY T f t s).2.cd=0->TyIn (dataY T f t s).2 (dataY T f t s).1
 sz:szY (dataY T f t s).1<=3*nT t
theorem dataY_ok {T:List GType} (hT:TysOk T):∀ (f:Nat) (t:PxT) (s:IS),DOkS f t->s.Good->DtOk T f t s
 |0,t,s,h,_=>absurd h (by simp[DOkS])
 |f+1,.mk kd n str ks,s,⟨_,hsh,hks⟩,hg=>by
  have ih:=dataY_ok hT f
  have hn:=nT_mk kd n str ks
  have leaf:∀name:ByteArray,name.toList.isEmpty=false->dataY T (f+1) (.mk kd n str ks) s=(.c0 name,s)->DtOk T (f+1) (.mk kd n str ks) s:=fun name h1 h2=>
   ⟨by rw[h2];exact hg,by rw[h2];exact Nat.le_refl _,by rw[h2];exact Nat.le_add_right _ _,by rw[h2];exact id,by rw[h2];exact fun _=>TyIn.c0 s h1,by rw[h2,hn];simp[szY];omega⟩
  by_cases h0:s.cd≠0
  ·exact leaf nmInt nmInt_full (by unfold dataY;rw[if_pos h0])
  by_cases h3:kd=3
  ·exact leaf nmInt nmInt_full (by unfold dataY;rw[if_neg h0,if_pos h3])
  by_cases h2:kd=2
  ·exact leaf nmString nmString_full (by unfold dataY;rw[if_neg h0,if_neg h3,if_pos h2])
  by_cases h6:kd=6
  ·exact leaf nmUnit nmUnit_full (by unfold dataY;rw[if_neg h0,if_neg h3,if_neg h2,if_pos h6])
  by_cases h5:kd=5
  ·match ks,hks,hn,leaf with
   |[a,b],hks,hn,leaf=>
    have e:dataY T (f+1) (.mk kd n str [a,b]) s=(.c2 nmStar (dataY T f a s).1 (dataY T f b (dataY T f a s).2).1,(dataY T f b (dataY T f a s).2).2):=by
     conv=>lhs;unfold dataY
     rw[if_neg h0,if_neg h3,if_neg h2,if_neg h6,if_pos h5]
    have hn2:nT (.mk kd n str [a,b])=1+(nT a+nT b):=by rw[hn];simp[nTs]
    have i1:=ih a s (hks a (by simp[PxT.kids])) hg
    have i2:=ih b (dataY T f a s).2 (hks b (by simp[PxT.kids])) i1.good
    refine⟨by rw[e];exact i2.good,by rw[e];have:=i1.lo;have:=i2.lo;dsimp only;omega,by rw[e,hn2];have:=i1.hi;have:=i2.hi;dsimp only;omega,by rw[e];exact fun h=>i1.cd (i2.cd h),by
     rw[e]
     intro h
     have t1:=(i1.ty (i2.cd h)).up i2.lo
     have t2:=i2.ty h
     exact⟨fun k hk=>by simp only[occY,Bool.or_eq_true]at hk;rcases hk with hk|hk;exact t1.1 k hk;exact t2.1 k hk,nmStar_full,t1.2,t2.2⟩,by rw[e,hn2];have:=i1.sz;have:=i2.sz;simp only[szY];omega⟩
   |[],hks,hn,leaf=>exact leaf nmInt nmInt_full (by unfold dataY;rw[if_neg h0,if_neg h3,if_neg h2,if_neg h6,if_pos h5])
   |[a],hks,hn,leaf=>exact leaf nmInt nmInt_full (by unfold dataY;rw[if_neg h0,if_neg h3,if_neg h2,if_neg h6,if_pos h5])
   |a :: b :: c :: l,hks,hn,leaf=>exact leaf nmInt nmInt_full (by unfold dataY;rw[if_neg h0,if_neg h3,if_neg h2,if_neg h6,if_pos h5])
  have plain:dataY T (f+1) (.mk kd n str ks) s=((lookY T s str false 0).1,(lookY T s str false 0).2.2)->DtOk T (f+1) (.mk kd n str ks) s:=fun e=>by
   obtain⟨g1,g2,g3,g4,g5⟩:=lookY_ok hT hg str false i64_zero
   refine⟨by rw[e];exact g1,by rw[e];exact g2,by rw[e,hn];dsimp only;omega,by rw[e];exact g4,by rw[e];exact fun h=>(g5 h).1,by rw[e,hn];dsimp only;have:=lookY_sz hT s str false 0;omega⟩
  match ks,hks,hn,plain with
  |[k],hks,hn,plain=>
   obtain⟨g1,g2,g3,g4,g5⟩:=lookY_ok hT hg str true i64_zero
   have hn2:nT (.mk kd n str [k])=1+nT k:=by rw[hn];simp[nTs]
   have hsz:=lookY_sz hT s str true 0
   by_cases hl:(lookY T s str true 0).2.2.cd=0
   ·have e:dataY T (f+1) (.mk kd n str [k]) s=((lookY T s str true 0).1,(dataY T f k (lookY T s str true 0).2.2).2.demand (dataY T f k (lookY T s str true 0).2.2).1 (lookY T s str true 0).2.1 0):=by
     conv=>lhs;unfold dataY
     rw[if_neg h0,if_neg h3,if_neg h2,if_neg h6,if_neg h5]
     dsimp only
     rw[if_pos hl]
    have i1:=ih k (lookY T s str true 0).2.2 (hks k (by simp[PxT.kids])) g1
    obtain⟨t1,-,t3⟩:=g5 hl
    obtain⟨t4,-⟩:=t3 rfl
    obtain⟨d1,d2⟩:=i1.good.demand (fun h=>i1.ty h) (fun h=>t4.up i1.lo) (a:=0) i64_zero
    refine⟨by rw[e];exact d1,by rw[e];dsimp only;rw[d2];have:=i1.lo;omega,by rw[e,hn2];dsimp only;rw[d2];have:=i1.hi;omega,by rw[e];exact fun _=>g4 hl,by rw[e];exact fun _=>(t1.up i1.lo).up (by rw[d2];exact Nat.le_refl _),by rw[e,hn2];dsimp only;omega⟩
   ·have e:dataY T (f+1) (.mk kd n str [k]) s=((lookY T s str true 0).1,(lookY T s str true 0).2.2):=by
     conv=>lhs;unfold dataY
     rw[if_neg h0,if_neg h3,if_neg h2,if_neg h6,if_neg h5]
     dsimp only
     rw[if_neg hl]
    refine⟨by rw[e];exact g1,by rw[e];exact g2,by rw[e,hn2];dsimp only;omega,by rw[e];exact g4,by rw[e];exact fun h=>(g5 h).1,by rw[e,hn2];dsimp only;omega⟩
  |[],hks,hn,plain=>exact plain (by unfold dataY;rw[if_neg h0,if_neg h3,if_neg h2,if_neg h6,if_neg h5])
  |a :: c :: l,hks,hn,plain=>exact plain (by unfold dataY;rw[if_neg h0,if_neg h3,if_neg h2,if_neg h6,if_neg h5])
end Go.Proofs.YtkikkfjmggobpaaGreat
namespace Go.Proofs.YtkikkfjmggobpaaGreat
open Go.RowKit
set_option maxRecDepth 100000
set_option maxHeartbeats 16000000
set_option linter.unusedVariables false
set_option linter.unusedSimpArgs false
attribute [local go_sem] Ext.cell
structure ConTOk (c:ConT):Prop where
 many:c.many<=2
 own:NamesY c.own
 osz:szY c.own<=3
 arg:c.has=true->NamesY c.arg/\szY c.arg<=200
theorem conT_ok {T:List GType} (hT:TysOk T) {name:ByteArray} {c:ConT} (h:conT T name=some c):ConTOk c:=by
 unfold conT at h
 split at h
 ·obtain rfl:=Option.some.inj h
  exact⟨by simp,by show nmBool.toList.isEmpty=false;rw[ByteArray.toList_eq];rfl,by simp[szY],fun h=>by cases h⟩
 ·split at h
  ·obtain rfl:=Option.some.inj h
   have e1:nmList.toList.isEmpty=false:=by rw[ByteArray.toList_eq];rfl
   have e2:nmStar.toList.isEmpty=false:=by rw[ByteArray.toList_eq];rfl
   exact⟨by simp,⟨e1,trivial⟩,by simp[szY],fun _=>⟨⟨e2,trivial,e1,trivial⟩,by simp[szY]⟩⟩
  ·split at h
   ·rename_i t c' hf
    obtain rfl:=Option.some.inj h
    obtain⟨m1,m2⟩:=findC_mem hf
    obtain⟨h1,h2,h3,h4⟩:=typeOk_parts (hT t m1).1
    have hk:t.params.toNat<=2:=by omega
    have h5:=ownY_in (s:=⟨[],0,0,0⟩) hk (name_full h1) (m:=2) (by show 0+_<=2;omega)
    refine⟨hk,h5.2.1,h5.2.2,fun hh=>?_⟩
    obtain⟨h6,h7,h8⟩:=conHas_yes (h4 c' m2).1 hh
    exact⟨h7,h8⟩
   ·cases h
theorem sz_newVs (n k:Nat):∀t,szY (subY (newVs n k) t)=szY t
 |.v m=>by
  unfold subY
  cases h:getS (newVs n k) m with
  |none=>rfl
  |some u=>have:=(newVs_mem (getS_some h)).2.2;dsimp only at this;rw[this];rfl
 |.c0 _=>rfl
 |.c1 _ a=>by simp only[subY,szY];rw[sz_newVs n k a]
 |.c2 _ a b=>by simp only[subY,szY];rw[sz_newVs n k a,sz_newVs n k b]
def CnPost (b:Nat) (P0 P1 lv:Value) (one:Bool) (L:TyT × TyT × IS) (w:World) (e:Ending) (w' : World):Prop:=
 ∃v1 v2,e=.returned (.tuple #[v1,v2,.bool (decide (L.2.2.cd=0))])/\SB b P0 P1 w' L.2.2 lv/\IFr b w w'/\(∃a n c,v1=.slice a n c)/\(∃a n c,v2=.slice a n c)/\TV b 3 L.2.2.cd w' v1 L.1/\(one=true->TV b 40000 L.2.2.cd w' v2 L.2.1)
theorem cons_c {b tn tc:Nat} {ta:Option Addr} {P1 lv:Value} {w:World} {s:IS} {T:List GType} (S:SB b (.slice ta tn tc) P1 w s lv) (hM:TyMem b (.slice ta tn tc) T w) (hT:TysOk T) (hn:s.nx<=900000) (h0:s.cd=0) (name:ByteArray) (one:Bool) (a:Int) :
  Calls Tryz.prog 76 #[.pointer (some ⟨b,0,none⟩),.string name,.bool one,.int .i64 a] w (CnPost b (.slice ta tn tc) P1 lv one (lookY T s name one a) w):=by
 have hlt:=S.lt
 obtain⟨wp,hp1,hp2,hp3⟩:=hM
 have cC:=fun W (hW:IFr b w W)=>conOf_c wp T hT (.slice ta tn tc) W hp1 (hp3.trans (hW.below.mono hp2)) name
 have hL:=conI_conT hT name s.nx
 have hok:=fun c=>conT_ok hT (name:=name) (c:=c)
 have hlk:∀L,lookY T s name one a=L->L=(match conT T name with
   |none=>(.c0 nmInt,.c0 nmInt,s.fault 22 a)
   |some c=>if c.has=one then (subY (newVs s.nx c.many) c.own,subY (newVs s.nx c.many) c.arg,s.adv c.many) else (.c0 nmInt,.c0 nmInt,s.fault 23 a)):=fun L h=>by
  rw[<- h];unfold lookY;rw[hL]
  cases conT T name<;>rfl
 obtain⟨L,hLL⟩ : ∃L,lookY T s name one a=L:=⟨_,rfl⟩
 replace hlk:=hlk L hLL
 rw[hLL]
 have hpost:∀W v1 v2 q,decide (L.2.2.cd=0)=q->SB b (.slice ta tn tc) P1 W L.2.2 lv->IFr b w W->(∃a n c,v1=.slice a n c)->(∃a n c,v2=.slice a n c)->TV b 3 L.2.2.cd W v1 L.1->(one=true->TV b 40000 L.2.2.cd W v2 L.2.1)->CnPost b (.slice ta tn tc) P1 lv one L w (.returned (.tuple #[v1,v2,.bool q])) W:=fun W v1 v2 q hq h1 h2 h3 h4 h5 h6=>by
  rw[<- hq];exact⟨v1,v2,rfl,h1,h2,h3,h4,h5,h6⟩
 generalize CnPost b (.slice ta tn tc) P1 lv one L w=Q at *
 generalize conT T name=C at *
 obtain⟨⟨s_0,s_1,s_2,s_3,s_4,s_5⟩,sf_2,sf_3,sf_4,sf_5⟩:=S.cells
 have SS:=kH S.sl
 replace cC:=kH cC;replace hok:=kH hok;replace hlk:=kH hlk;replace hpost:=kH hpost;replace h0:=kH h0
 clear hT hL hLL hp1
 obtain⟨iK,hi0,hz0,hz1,hz2⟩:=info_parts info_SubB;have IK:=kH hi0;have IK0:=kH hz0;have IK1:=kH hz1;have IK2:=kH hz2;clear hi0 hz0 hz1 hz2
 go_enter Tryz.func76,Tryz.ntmps76
 cases C with
 |none=>
  have hl:=hlk.out
  dsimp only at hl
  subst hl
  have cC' : ∀W,IFr b w W->Calls Tryz.prog 119 #[.slice ta tn tc,.string name] W fun e w'=>∃ov av,e=.returned (.tuple #[ov,av,.int .i64 0,.bool false])/\Below W.heap.size W w':=fun W hW=>(cC.out W hW).mono (by rintro e w' ⟨ov,av,rfl,h,h2⟩;exact⟨ov,av,rfl,h2⟩)
  replace cC':=kH cC'
  have cF:=fun W (hW:SB b (.slice ta tn tc) P1 W s lv)=>failS_c hW 22 a (by omega)
  have hd:decide ((s.fault 22 a).cd=0)=false:=decide_eq_false (IS.fault_cd (by omega))
  replace cF:=kH cF;replace hd:=kH hd
  go_wp2_with (first
   |(go_at_call 119;(with_reducible refine(cC'.out _ (IFr.refl b w)).mono ?_);rintro e w1 ⟨ov,av,rfl,hb1⟩;have S1:=S.below hb1;have F1:=IFr.of hb1 (Nat.le_of_lt hlt))
   |(go_at_call 120;(with_reducible refine(cF.out _ S1).mono ?_);rintro e w2 ⟨rfl,S2,F2⟩))
  exact hpost.out _ _ _ _ hd.out S2 (F1.trans F2) ⟨_,_,_,rfl⟩ ⟨_,_,_,rfl⟩ (TV.none (IS.fault_cd (by omega))) (fun _=>TV.none (IS.fault_cd (by omega)))
 |some c=>
  have hcok:=hok.out c rfl
  have hl:=hlk.out
  dsimp only at hl
  obtain⟨cm,hcm⟩ : ∃q,q=c.many:=⟨_,rfl⟩
  have hcm2:cm<=2:=by rw[hcm];exact hcok.many
  have hargl:decide (0<c.argL.length)=c.has:=by
   unfold ConT.argL
   cases hh:c.has
   ·simp
   ·rw[if_pos rfl,flatY_len];have:=szY_pos c.arg;simp;omega
  have cC' : ∀W,IFr b w W->Calls Tryz.prog 119 #[.slice ta tn tc,.string name] W fun e w'=>∃oa on oc aa an ac,e=.returned (.tuple #[.slice oa on oc,.slice aa an ac,.int .i64 (cm:Int),.bool true])/\decide (0<an)=c.has/\Sl GTyItem.R 3 W.heap.size w' (.slice oa on oc) (flatY c.own)/\Stay wp W w' (.slice aa an ac) c.argL/\Below W.heap.size W w':=fun W hW=>(cC.out W hW).mono (by
   rintro e w' ⟨ov,av,rfl,h,h2⟩
   obtain⟨h3,h4,⟨aa,an,ac,rfl⟩⟩:=h c rfl
   obtain⟨oa,oc,rfl⟩:=h3.form
   have hal:an=c.argL.length:=by
    rcases h4 with h4|h4
    ·obtain⟨_,_,hv,_⟩:=h4;injection hv
    ·obtain⟨_,_,hv,_⟩:=h4 w' ((hp3.trans (hW.below.mono hp2)).trans (h2.mono (by have:=hp3.size;have:=hW.size;omega)));injection hv
   exact⟨oa,_,oc,aa,_,ac,by rw[hcm];rfl,by rw[hal];exact hargl,h3,h4,h2⟩)
  replace cC':=kH cC'
  replace hcm:=kH hcm
  clear cC hok
  go_upto_region 4 with(go_at_call 119;(with_reducible refine(cC'.out _ (IFr.refl b w)).mono ?_);rintro e w1 ⟨oa,on,oc,aa,an,ac,rfl,hlen,hO,hA,hb1⟩;replace hO:=kH hO;replace hA:=kH hA)
  have S1:=S.below hb1
  have F1:=IFr.of hb1 (Nat.le_of_lt hlt)
  obtain⟨has,hhas⟩ : ∃q,q=c.has:=⟨_,rfl⟩
  rw[<- hhas]at hlen hl
  by_cases hone:has=one
  ·have hne:(one != has)=false:=by rw[hone];cases one<;>rfl
   have hne2:(one ^^ has)=false:=by rw[hone];cases one<;>rfl
   have hne3:(one == has)=true:=by rw[hone];cases one<;>rfl
   rw[if_pos hone]at hl
   subst hl
   have hn1:NamesY c.own:=hcok.own
   have ho3:=hcok.osz
   have hsz1:=sz_newVs s.nx c.many c.own
   have hsz2:=sz_newVs s.nx c.many c.arg
   have hargs:one=true->c.argL=flatY c.arg/\NamesY c.arg/\szY c.arg<=200:=fun h=>by
    have hh:c.has=true:=by rw[<- hhas,hone,h]
    exact⟨by unfold ConT.argL;rw[if_pos hh],(hcok.arg hh).1,(hcok.arg hh).2⟩
   have hargs0:one=false->c.argL=[]:=fun h=>by unfold ConT.argL;rw[if_neg (by rw[<- hhas,hone,h];simp)]
   rw[<- hcm.out]at hpost hsz1 hsz2
   have cP1:∀W ov lvv,Sl GTyItem.R 3 0 W ov (flatY c.own)->Sl SubR 2 0 W lvv (newVs s.nx cm)->Calls Tryz.prog 72 #[ov,lvv] W (ItPost (flatY (subY (newVs s.nx cm) c.own)) W):=fun W ov lvv h1 h2=>by
    rw[<- putL_flat _ _ hn1]
    exact put_c _ _ (by rw[putL_flat _ _ hn1,flatY_len];omega) ov lvv W h1 h2
   have hpl:(putL (newVs s.nx cm) c.argL).length<=200:=by
    cases one
    ·rw[hargs0 rfl];simp[putL]
    ·obtain⟨h1,h2,h3⟩:=hargs rfl
     rw[h1,putL_flat _ _ h2,flatY_len];omega
   have cP2:∀W av lvv,Sl GTyItem.R 3 0 W av c.argL->Sl SubR 2 0 W lvv (newVs s.nx cm)->Calls Tryz.prog 72 #[av,lvv] W (ItPost (putL (newVs s.nx cm) c.argL) W):=fun W av lvv h1 h2=>put_c _ _ (by omega) av lvv W h1 h2
   unfold ItPost at cP1 cP2
   have hd:decide ((s.adv cm).cd=0)=true:=decide_eq_true h0.out
   replace hd:=kH hd;replace hone:=kH hone;replace hhas:=kH hhas;replace hargs:=kH hargs;replace cP1:=kH cP1;replace cP2:=kH cP2;replace hpl:=kH hpl;replace hcok:=kH hcok;replace hsz1:=kH hsz1;replace hsz2:=kH hsz2
   clear hlk hargl hargs0 cC'
   have hz1:=hb1.size
   go_upto_region 7 with fail
   obtain⟨w2,hW2⟩ : ∃W,W=w1.alloc (.cells #[] 119):=⟨_,rfl⟩
   rw[<- hW2]
   have hb2:Below w1.heap.size w1 w2:=by rw[hW2];go_grown
   have F12:=IFr.of hb2 (show b<=w1.heap.size by omega)
   have hOK:∀W,IFr b w1 W->Sl GTyItem.R 3 0 W (.slice oa on oc) (flatY c.own):=fun W hW=>(hW.sl GTyItem.good (hO.out.mono GTyItem.good (by omega))).mono GTyItem.good (Nat.zero_le _)
   have hAK:∀W,IFr b w1 W->Sl GTyItem.R 3 0 W (.slice aa an ac) c.argL:=fun W hW=>by
    rcases hA.out with h|h
    ·exact(hW.sl GTyItem.good (h.mono GTyItem.good (by omega))).mono GTyItem.good (Nat.zero_le _)
    ·exact h W (hp3.trans ((F1.trans hW).below.mono hp2))
   replace hOK:=kH hOK;replace hAK:=kH hAK
   have O2:SbO w1.heap.size (b+1) w2 (.slice (some ⟨w1.heap.size,0,none⟩) 0 0) [] (newVs s.nx 0):=SbO.nil ⟨own_empty_at (by rw[hW2];have h:=heap_alloc_new' w1 (.cells #[] 119) _ rfl;simpa using h) (Nat.le_refl _),fun x h=>(by cases h)⟩
   have S2:SB b (.slice ta tn tc) P1 w2 (s.adv 0) lv:=S1.below hb2
   have F2:=F1.grow hb2 (by omega)
   obtain⟨B1,hB1⟩ : ∃q,q=w1.heap.size:=⟨_,rfl⟩
   rw[<- hB1]at O2 hz1 ⊢
   generalize (Value.slice (some ⟨B1,0,none⟩) 0 0)=ov0 at *
   have hBb:b<B1:=by omega
   replace O2:=kH O2;replace hB1:=kH hB1
   clear hW2 hb2 hO hA S1 hne hne2 hne3 hlen s_0 s_1 s_2 s_3 s_4 s_5 sf_2 sf_3 sf_4 sf_5
   go_wp2_with fail
   go_loopw [15,44] (fun sv jj wr=>∃ (j:Nat) (ps:List SubV) (ov:Value),ov=sv/\j<=cm/\jj=.int .i64 j/\SB b (.slice ta tn tc) P1 wr (s.adv j) lv/\Hid (IFr b w1 wr)/\Hid (SbO B1 (b+1) wr ov ps (newVs s.nx j))) (fun _ jj _=>cm-(intOf jj).toNat)
   case atStart=>exact⟨0,[],_,rfl,by omega,rfl,S2,kH F12,O2⟩
   case round=>
    clear O2 S2 F12
    obtain⟨j,ps,ov,rfl,hj,rfl,SJ,FJ,OJ⟩:=hrel
    have hzj:=FJ.out.size
    have hBr:B1<=wr.heap.size:=by have:=hB1.out;omega
    by_cases hlt2:j<cm
    ·have cFr:=fresh_c SJ (by show s.nx+j<=999999;omega)
     have hpl2:=OJ.out.len
     rw[newVs_len]at hpl2
     have hbs:=OJ.out.own.base
     replace cFr:=kH cFr
     obtain⟨va,vc,rfl⟩:=OJ.out.own.form
     obtain⟨vn,hvn⟩ : ∃y,y=ps.length:=⟨_,rfl⟩
     rw[<- hvn]at hpl2 hbs OJ ⊢
     have hst:newVs s.nx (j+1)=newVs s.nx j ++ [((j:Int),.v ((s.nx+j:Nat):Int))]:=rfl
     have hwz:∀w' : World,IFr b wr w'->OwnS B1 w' (.slice va vn vc) ps:=fun w' hw'=>(OJ.out.fr hw' hBb).own
     have hvm:vn<=2:=by omega
     replace hst:=kH hst;replace hvn:=kH hvn;replace hbs:=kH hbs;replace hwz:=kH hwz
     clear hpl2
     go_wp2_with (first
      |(go_at_call 121;(with_reducible refine(cFr.out).mono ?_);rintro e w5 ⟨v5,rfl,S5,T5,F5⟩;obtain⟨a5,c5,rfl⟩:=T5.form;have hown:=(hwz.out w5 F5).1;rw[<- hvn.out]at hown;have hz5:=F5.size;replace T5:=kH T5;replace hown:=kH hown)
      |(at_builtin;refine wpList_append_lies _ rfl _ _ _ rfl (B1) 119 iK _ 2 32 Tryz.underlying59 IK.out IK0.out IK1.out IK2.out rfl (by omega) (.slice va vn vc) (vn) (rowsOf subRow ps) rfl (own_below hown.out (by go_grown)) ⟨w5.heap.size,0,none⟩ 1 1 [.int .i64 (j:Int),.slice a5 1 c5] rfl rfl (World.news_of_block (cs:=#[.int .i64 (j:Int),.slice a5 1 c5]) (t:=119) (fr:=(0,0)) (heap_alloc_new' _ _ _ (by simp))) (by intro u hu;simp at hu;repeat' first|(subst hu;rfl)|rcases hu with hu|hu) (by omega) (by unfold maxLen;omega) (by omega) (by simp;omega) _ rfl ?_;intro g8 cap8 w8 hown8 hgrow8 hat8 hlt8))
     have hbA:Below w5.heap.size w5 (w5.alloc (.cells #[.int .i64 (j:Int),.slice a5 1 c5] 119)):=by go_grown
     have hzA:(w5.alloc (.cells #[.int .i64 (j:Int),.slice a5 1 c5] 119)).heap.size=w5.heap.size+1:=by simp
     have hb5:=T5.out.base
     have hs8:=hgrow8.size
     have O8:=(OJ.out.fr F5 hBb).push (p:=⟨(j:Int),a5,1,c5⟩) (q:=((j:Int),.v ((s.nx+j:Nat):Int))) hvn.out hbA hown8 hgrow8 (by rcases hat8 with h|h;exact .inl h;exact .inr (Nat.le_of_eq h.symm)) rfl (by dsimp only[I64];omega) (((T5.out.sl flatTyItem).mono GTyItem.good (by omega)).below GTyItem.good hbA) (fun g hg=>by have:=hb5 g hg;omega) (fun g hg e=>by have:=hbs.out g hg;have:=hb5 g e;omega)
     rw[<- hst.out]at O8
     have k8:=kept_of hgrow8 (w:=w5) hbA
     have hB1s:=hB1.out
     have F8:IFr b w1 w8:=((FJ.out.trans F5).grow hbA (by omega)).grown hgrow8 (by omega) (fun k hk=>by have:=hbs.out k hk;omega)
     have S8:SB b (.slice ta tn tc) P1 w8 (s.adv (j+1)) lv:=by
      exact(S5.below hbA).frS (w:=w) (kept_grown hgrow8) (fun e=>by have:=hbs.out b e.symm;omega) (fun q hq=>by have:=hbs.out q hq.symm;omega) (fun h W hW=>hW.sl SubR.good (SS.out h)) (F1.trans F8)
     clear hB1s
     go_roundw
     case rel=>exact⟨j+1,_,_,rfl,by omega,by go_num,S8,kH F8,kH O8⟩
     case measure=>simp[intOf];omega
    ·obtain rfl:j=cm:=by omega
     have SL:=(OJ.out.sl (show b+1<=B1 by omega)).mono SubR.good (Nat.zero_le _)
     have hzb:b<wr.heap.size:=SJ.lt
     replace SL:=kH SL
     go_wp2_with (go_at_call 72;first
      |((with_reducible refine(cP1.out _ _ _ (hOK.out _ FJ.out) SL.out).mono ?_);rintro e w5 ⟨v5,rfl,T5,hb5⟩;replace hb5:=kH hb5;replace T5:=kH T5)
      |((with_reducible refine(cP2.out _ _ _ (hAK.out _ (FJ.out.grow hb5.out (by omega))) (SL.out.below SubR.good hb5.out)).mono ?_);rintro e w6 ⟨v6,rfl,T6,hb6⟩;replace hb6:=kH hb6;replace T6:=kH T6))
     have hb56:=hb5.out.trans (hb6.out.mono hb5.out.size)
     have hz5:=hb5.out.size
     refine hpost.out w6 v5 v6 true hd.out (SJ.below hb56) ((F1.trans FJ.out).grow hb56 (by omega)) ?_ ?_ ?_ ?_
     ·obtain⟨a,c,h⟩:=T5.out.form;exact⟨_,_,_,h⟩
     ·obtain⟨a,c,h⟩:=T6.out.form;exact⟨_,_,_,h⟩
     ·exact TV.of (((T5.out.sl flatTyItem).mono GTyItem.good (by omega)).below GTyItem.good hb6.out) (by have:=hsz1.out;omega)
     ·intro ho
      obtain⟨h1,h2,h3⟩:=hargs.out ho
      have T7:=T6.out
      rw[h1,putL_flat _ _ h2]at T7
      exact TV.of ((T7.sl flatTyItem).mono GTyItem.good (by omega)) (by have:=hsz2.out;omega)
  ·have hne:(one != has)=true:=by cases one<;>cases has<;>simp_all
   have hne2:(one ^^ has)=true:=by cases one<;>cases has<;>simp_all
   have hne3:(one == has)=false:=by cases one<;>cases has<;>simp_all
   rw[if_neg hone]at hl
   subst hl
   have cF:=fun W (hW:SB b (.slice ta tn tc) P1 W s lv)=>failS_c hW 23 a (by omega)
   have hd:decide ((s.fault 23 a).cd=0)=false:=decide_eq_false (IS.fault_cd (by omega))
   replace cF:=kH cF;replace hd:=kH hd;replace hone:=kH hone;replace hhas:=kH hhas
   clear hlk hargl
   go_wp2_with (go_at_call 120;(with_reducible refine(cF.out _ S1).mono ?_);rintro e w2 ⟨rfl,S2,F2⟩)
   exact hpost.out _ _ _ _ hd.out S2 (F1.trans F2) ⟨_,_,_,rfl⟩ ⟨_,_,_,rfl⟩ (TV.none (IS.fault_cd (by omega))) (fun _=>TV.none (IS.fault_cd (by omega)))
end Go.Proofs.YtkikkfjmggobpaaGreat
