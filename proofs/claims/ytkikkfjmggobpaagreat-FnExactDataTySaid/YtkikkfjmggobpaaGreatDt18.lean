/- Parts of the proof, merged: Us4. -/
import Derived.Deep.RegionHeld3
import Derived.Test.YtkikkfjmggobpaaGreatDt17
namespace Go.Proofs.YtkikkfjmggobpaaGreat
open Go.RowKit
set_option maxRecDepth 100000
set_option maxHeartbeats 16000000
set_option linter.unusedVariables false
set_option linter.unusedSimpArgs false
attribute [local go_sem] Ext.cell
theorem info_SubB:(Tryz.prog.info? 119).map (fun i=>(i.zero,i.size,i.bytes))=some (some (.agg #[.int .i64 0,.slice none 0 0]),2,32):=by kernel_rfl
def BindPost (lo:Nat) (r:Int × Sbs) (w:World) (e:Ending) (w' : World):Prop:=
 ∃lv,e=.returned (.tuple #[lv,.int .i64 r.1])/\(∃a n c,lv=.slice a n c)/\(r.1=0->Sl SubR 2 lo w' lv r.2)/\Below w.heap.size w w'
theorem l05Bind_c (σ:Sbs) (n:Int) (u:TyT) (hn64:I64 n) (hu:NamesY u) (hσ:NamesS σ) (hσz:∀p∈σ,szY p.2<=200) (hz:szY u<=40000) (hlen:σ.length<=1000000) (lv uv:Value) (lo:Nat) (w:World) (hlo:lo<=w.heap.size) (hl:Sl SubR 2 lo w lv σ) (hv:Sl GTyItem.R 3 lo w uv (flatY u)) :
  Calls Tryz.prog 136 #[lv,.int .i64 n,.agg #[uv]] w (BindPost lo (bindY σ n u) w):=by
 have cV:=fun W (hW:Below w.heap.size w W)=>l05Vars_c (flatY u) (by rw[flatY_len];omega) uv W ((hv.below GTyItem.good hW).mono GTyItem.good (Nat.zero_le _))
 unfold VarsPost at cV
 have hocc:=fun k=>occ_items k u hu
 have hb3:occY n u=true->bindY σ n u=(3,[]):=fun h=>by unfold bindY;rw[if_pos h]
 have hb4:occY n u=false->(∃p∈insS n u (mapS n u σ),200<szY p.2)->bindY σ n u=(4,[]):=fun h ⟨p,h1,h2⟩=>by
  unfold bindY
  rw[if_neg (by rw[h];simp),if_pos (List.any_eq_true.2 ⟨p,h1,decide_eq_true h2⟩)]
 have hb0:occY n u=false->(∀p∈insS n u (mapS n u σ),¬ 200<szY p.2)->bindY σ n u=(0,insS n u (mapS n u σ)):=fun h h1=>by
  unfold bindY
  rw[if_neg (by rw[h];simp),if_neg (fun h2=>by
   obtain⟨p,h3,h4⟩:=List.any_eq_true.1 h2
   exact h1 p h3 (of_decide_eq_true h4))]
 have hpost:∀W lv r,(∃a n c,lv=Value.slice a n c)->bindY σ n u=r->(r.1=0->Sl SubR 2 lo W lv r.2)->Below w.heap.size w W->BindPost lo (bindY σ n u) w (.returned (.tuple #[lv,.int .i64 r.1])) W:=fun W lv r h1 h2 h3 h4=>by
  rw[h2];exact⟨lv,rfl,h1,h3,h4⟩
 generalize BindPost lo (bindY σ n u) w=Q at *
 have cA:∀ (ov:Value) t W (tv:Value),szY t<=200->NamesY t->Sl SubR 2 0 W ov [(n,u)]->Sl GTyItem.R 3 0 W tv (flatY t)->Calls Tryz.prog 24 #[.agg #[tv],ov] W (TyPost (flatY (subY [(n,u)] t)) W):=fun ov t W tv h1 h2 h3 h4=>by
  rw[<- putL_flat _ _ h2]
  refine l05Apply_c (flatY t) [(n,u)] (by simp[KeysD]) ?_ tv ov W h4 h3
  rw[putL_flat _ _ h2,flatY_len]
  have h5:=sz_sub1 n u t
  have h6:szY u*szY t<=40000*200:=Nat.mul_le_mul hz h1
  omega
 unfold TyPost at cA
 have hU:=fun W (hW:Below w.heap.size w W)=>hv.below GTyItem.good hW
 obtain⟨ua,uc,rfl⟩:=hv.form
 obtain⟨un,hun⟩ : ∃x,x=(flatY u).length:=⟨_,rfl⟩
 rw[<- hun]at cV hU ⊢
 obtain⟨la,lc,rfl,ll,lm,l0⟩:=hl
 obtain⟨m,hm⟩ : ∃m,m=σ.length:=⟨_,rfl⟩
 rw[<- hm]at ll hlen ⊢
 have lK:∀W,Below w.heap.size w W->SlAt SubR 2 lo W la σ:=fun W hW=>l0.below SubR.good hW
 obtain⟨oc,hoc⟩ : ∃q,occY n u=q:=⟨_,rfl⟩
 rw[hoc]at hb3 hb4 hb0
 replace cV:=kH cV;replace hocc:=kH hocc;replace hb3:=kH hb3;replace hb4:=kH hb4;replace hb0:=kH hb0;replace hpost:=kH hpost;replace cA:=kH cA;replace hU:=kH hU;replace lK:=kH lK;replace hm:=kH hm;replace hun:=kH hun;replace hoc:=kH hoc;replace hσ:=kH hσ;replace hσz:=kH hσz
 clear hv l0
 obtain⟨iS,hi0,hz0,hz1,hz2⟩:=info_parts info_SubB;have IS:=kH hi0;have IS0:=kH hz0;have IS1:=kH hz1;have IS2:=kH hz2;clear hi0 hz0 hz1 hz2
 go_enter Tryz.func136,Tryz.ntmps136
 go_upto_region 1 with fail
 have B:RowAt (w.alloc (.cells #[.slice ua un uc] 33)) (w.heap.size) 0 [.slice ua un uc]:=RowAt.box w #[.slice ua un uc] 33
 have hw:Below w.heap.size w (w.alloc (.cells #[.slice ua un uc] 33)):=by go_grown
 generalize (w.alloc (.cells #[.slice ua un uc] 33))=w0 at *
 have b_0:=B.box1;have hsB:=bLt b_0
 go_upto_if 18 with(first
  |(go_at_call 166;(with_reducible refine(cV.out _ hw).mono ?_);rintro e w2 ⟨v2,ys,rfl,hY,hmem,-,hb2⟩;have hw2:=hw.trans (hb2.mono hw.size);have cH:=l05Has_c ys n v2 w2 hY;have B2:=B.below hb2;clear hb2;replace hmem:=kH hmem;replace cH:=kH cH)
  |(go_at_call 165;(with_reducible refine(cH.out).mono ?_);rintro e w3 ⟨rfl,hb3'⟩))
 have hdec:decide (n∈ys)=oc:=by
  rw[<- hoc.out,Bool.eq_iff_iff,decide_eq_true_iff,hmem.out n]
  exact hocc.out n
 rw[hdec]
 have hw3:=hw2.trans (hb3'.mono hw2.size)
 have B3:=B2.below hb3'
 clear b_0 hsB B hw hb3' hmem cH hY hdec B2 hw2 hocc cV
 have b3_0:=B3.box1;have hsB3:=bLt b3_0
 cases oc
 rotate_left
 ·have h3:=hpost.out w3 (.slice none 0 0) (3,[]) ⟨_,_,_,rfl⟩ (hb3.out rfl) (fun h=>by cases h) hw3
  replace h3:=kH h3
  go_wp2_with fail
  exact h3.out
 go_upto_region 5 with fail
 obtain⟨w5,hW5⟩ : ∃W,W=(w3.alloc (.cells #[.int .i64 n,.slice ua un uc] 119)).alloc (.cells #[] 119):=⟨_,rfl⟩
 rw[<- hW5]
 have hb5:Below w3.heap.size w3 w5:=by rw[hW5];go_grown
 have hz5:w5.heap.size=w3.heap.size+2:=by rw[hW5];simp
 have N5:RowAt w5 w3.heap.size 0 [.int .i64 n,.slice ua un uc]:=by
  rw[hW5]
  exact(RowAt.box w3 #[.int .i64 n,.slice ua un uc] 119).below (by go_grown)
 have O5:SbO (w3.heap.size+1) lo w5 (.slice (some ⟨w3.heap.size+1,0,none⟩) 0 0) [] []:=SbO.nil ⟨own_empty_at (by rw[hW5];have h:=heap_alloc_new' (w3.alloc (.cells #[.int .i64 n,.slice ua un uc] 119)) (.cells #[] 119) _ rfl;simpa using h) (Nat.le_refl _),fun x h=>by cases h⟩
 have hone:∀ (W:World) (b:Nat),RowAt W b 0 [.int .i64 n,.slice ua un uc]->Below w.heap.size w W->Sl SubR 2 0 W (.slice (some ⟨b,0,none⟩) 1 1) [(n,u)]:=fun W b hN hW=>by
  refine⟨_,1,rfl,Nat.le_refl _,by decide,fun _=>⟨b,0,Nat.zero_le _,rfl,fun i x hx=>?_⟩⟩
  match i,hx with
  |0,hx=>
   obtain rfl:=Option.some.inj hx
   exact⟨_,⟨.slice ua un uc,rfl,hn64,(hU.out W hW).mono GTyItem.good (Nat.zero_le _)⟩,hN⟩
  |i+1,hx=>simp at hx
 replace hone:=kH hone
 have hw5:=hw3.trans (hb5.mono hw3.size)
 obtain⟨nb,hnb⟩ : ∃x,x=w3.heap.size:=⟨_,rfl⟩
 rw[<- hnb]at N5 O5 hz5 ⊢
 have hov5:∀g,(Value.slice (some ⟨nb+1,0,none⟩) 0 0).ownBlock=some g->g≠nb:=fun g hg=>by simp[Value.ownBlock]at hg;omega
 generalize (Value.slice (some ⟨nb+1,0,none⟩) 0 0)=ov0 at *
 have hubk:∀b,(Value.slice ua un uc).ownBlock=some b->b<nb+1:=fun b hb=>by
  have h1:=hU.out w3 hw3
  obtain⟨a',c',hv',_,_,h8⟩:=h1
  have h0:0<(flatY u).length:=by rw[flatY_len];exact szY_pos u
  obtain⟨b2,off,_,e1,h9⟩:=h8 h0
  obtain⟨rfl,rfl⟩ : ua=a'/\uc=c':=by injection hv' with e1 e2 e3;exact⟨e1,e3⟩
  subst e1
  obtain rfl:b2=b:=by simpa [Value.ownBlock] using hb
  obtain⟨y,hy⟩ : ∃y,(flatY u)[0]? = some y:=⟨_,List.getElem?_eq_getElem h0⟩
  obtain⟨r,⟨rfl,_⟩,h10⟩:=h9 0 y hy
  have:=World.block_lt_of_cell? _ _ (h10 0 _ rfl)
  dsimp only at this;omega
 replace O5:=kH O5;replace hnb:=kH hnb;replace hov5:=kH hov5;replace hubk:=kH hubk
 have hk0:BndOk σ n 0 false:=⟨fun h=>(by cases h),fun _ q hq=>(by simp at hq)⟩
 replace hk0:=kH hk0
 clear hW5 b3_0 hsB3 B3 hb5
 go_wp2_with fail
 go_loopw [9,10,26] (fun sv dv ii wr=>∃ (j:Nat) (dn:Bool) (ps:List SubV) (ov:Value),ov=sv/\j<=m/\ii=.int .i64 j/\dv=.bool dn/\Hid (SbO (nb+1) lo wr ov ps (bndL σ n u j dn))/\Hid (BndOk σ n j dn)/\Hid (∀g,ov.ownBlock=some g->g≠nb)/\RowAt wr nb 0 [.int .i64 n,.slice ua un uc]/\Below w.heap.size w wr/\nb+1<=wr.heap.size) (fun _ _ ii _=>m-(intOf ii).toNat)
 case atStart=>exact⟨0,false,[],_,rfl,by omega,rfl,rfl,O5,hk0,hov5,N5,hw5,by omega⟩
 case round=>
  clear O5 hk0 hov5 N5 hw5 hz5
  obtain⟨j,dn,ps,ov,rfl,hj,rfl,rfl,O,hK,hov,N,hw,hzn⟩:=hrel
  have hz:=hw.size
  have hbl:=bnd_len (σ:=σ) (n:=n) (u:=u) (j:=j) (dn:=dn)
  have hpsl:=O.out.len
  by_cases hlt:j<m
  ·obtain⟨b1,o1,p,r1,_,rfl,P1,⟨tv,rfl,hp64,ht⟩,r1w⟩:=(lK.out w (Below.refl _ w)).get hm.out hlt
   obtain⟨k,t⟩:=p
   obtain⟨ta,tc,rfl⟩:=ht.form
   obtain⟨tn,htn⟩ : ∃x,x=(flatY t).length:=⟨_,rfl⟩
   dsimp only at hp64 ht r1w
   rw[<- htn]at r1w ht
   have r1':=r1w.below hw
   have htK:∀W,Below w.heap.size w W->Sl GTyItem.R 3 0 W (.slice ta tn tc) (flatY t):=fun W hW=>(ht.below GTyItem.good hW).mono GTyItem.good (Nat.zero_le _)
   have hpm:=List.mem_of_getElem? P1.out
   have htz:=hσz.out _ hpm
   have htN:=hσ.out _ hpm
   have e_0:wr.cell? ⟨b1,o1+j*2,none⟩=some (.int .i64 k):=by simpa using r1' 0 _ rfl
   have e_1:wr.cell? ⟨b1,o1+j*2+1,none⟩=some (.slice ta tn tc):=r1' 1 _ rfl
   have hbb1:=World.block_lt_of_cell? _ _ e_0;dsimp only at hbb1
   dsimp only at htz htN
   replace htK:=kH htK;replace htn:=kH htn;replace hp64:=kH hp64
   clear r1' r1w ht hpm
   go_upto_region 9 with fail
   obtain⟨w4,hW4⟩ : ∃W,W=wr.alloc (.cells #[.int .i64 k,.slice ta tn tc] 119):=⟨_,rfl⟩
   rw[<- hW4]
   have hb4:Below wr.heap.size wr w4:=by rw[hW4];go_grown
   have S:RowAt w4 wr.heap.size 0 [.int .i64 k,.slice ta tn tc]:=by rw[hW4];exact RowAt.box wr #[_,_] _
   have hz4:w4.heap.size=wr.heap.size+1:=by rw[hW4];simp
   obtain⟨sb,hsb⟩ : ∃x,x=wr.heap.size:=⟨_,rfl⟩
   rw[<- hsb]at S hz4 ⊢
   have hsov:∀g,ov.ownBlock=some g->g<sb:=fun g hg=>by have:=O.out.own.base g hg;omega
   have O4:=O.out.below hb4
   have N4:=N.below hb4
   have hw4:=hw.trans (hb4.mono hz)
   have hU4:=kH (hU.out w4 hw4)
   have hnsb:nb+1<=sb:=by omega
   have hws:w.heap.size<=sb:=by omega
   have hzn4:nb+1<=w4.heap.size:=by omega
   replace hsb:=kH hsb;replace hz4:=kH hz4
   clear hW4 hb4 e_0 e_1 hbb1 O N
   obtain⟨s_0,s_1⟩:=S.box2;have hsS:=bLt s_0;obtain⟨n4_0,n4_1⟩:=N4.box2;have hsN4:=bLt n4_0
   have htl:=kH (flatY_len (subY [(n,u)] t))
   by_cases hc2:dn=false/\n<k
   ·obtain⟨rfl,hlk⟩:=hc2
    obtain⟨hnew,hok2⟩:=bnd_hit (u:=u) hK.out P1.out hlk
    dsimp only at hnew
    have d2:decide (n<k)=true:=decide_eq_true hlk
    obtain⟨va,vc,rfl⟩:=O4.own.form
    obtain⟨vn,hvn⟩ : ∃y,y=ps.length:=⟨_,rfl⟩
    have hown:=O4.own.1
    have hbase:=O4.own.base
    rw[<- hvn]at hown hbase hsov hov O4 hpsl ⊢
    have hvm:vn<=2000000:=by omega
    clear hpsl hbl
    replace hvn:=kH hvn;replace hown:=kH hown;replace hbase:=kH hbase;replace hsov:=kH hsov;replace O4:=kH O4;replace hnew:=kH hnew;replace hok2:=kH hok2
    go_upto_region 12 with((at_builtin;refine wpList_append_lies _ rfl _ _ _ rfl (nb+1) 119 iS _ 2 32 Tryz.underlying59 IS.out IS0.out IS1.out IS2.out rfl (by omega) (.slice va vn vc) (vn) (rowsOf subRow ps) rfl (own_below hown.out (by go_grown)) ⟨w4.heap.size,0,none⟩ 1 1 [.int .i64 n,.slice ua un uc] rfl rfl (World.news_of_block (cs:=#[.int .i64 n,.slice ua un uc]) (t:=119) (fr:=(0,0)) (heap_alloc_new' _ _ _ (by simp))) (by intro u hu;simp at hu;repeat' first|(subst hu;rfl)|rcases hu with hu|hu) (by omega) (by unfold maxLen;omega) (by omega) (by simp;omega) _ rfl ?_;intro g2 cap2 w6 hown6 hgrow6 hat6 hlt6))
    have hz4':=hz4.out
    have hbA:Below w4.heap.size w4 (w4.alloc (.cells #[.int .i64 n,.slice ua un uc] 119)):=by go_grown
    have hzA:(w4.alloc (.cells #[.int .i64 n,.slice ua un uc] 119)).heap.size=w4.heap.size+1:=by simp
    have O6:=O4.out.push (p:=⟨n,ua,un,uc⟩) (q:=(n,u)) hvn.out hbA hown6 hgrow6 (by rcases hat6 with h|h;exact .inl h;exact .inr (by omega)) rfl hn64 (hU4.out.below GTyItem.good hbA) (fun b hb=>by have:=hubk.out b hb;omega) (fun g hg e=>by have:=hubk.out g e;have:=hbase.out g hg;omega)
    have k6:=kept_of hgrow6 (w:=w4) hbA
    have hs6:=hgrow6.size
    have S6:=S.kept k6 (fun e=>by have:=hsov.out _ e.symm;omega)
    have N6:=N4.kept k6 (fun e=>hov.out _ e.symm rfl)
    have hw6:Below w.heap.size w w6:=below_grown2 (wr:=w4) (base:=w.heap.size) hgrow6 hbA hw4 hw4.size (own_lo hown.out (by have:=hw3.size;have:=hnb.out;omega))
    have hov6:∀g,(Value.slice (some ⟨g2,0,none⟩) (vn+1) cap2).ownBlock=some g->g≠nb/\g≠sb:=fun g hg=>by
     obtain rfl:g2=g:=by simpa [Value.ownBlock] using hg
     rcases hat6 with h|h
     ·have h1:=hsov.out g2 h;exact⟨hov.out g2 h,by omega⟩
     ·exact⟨by omega,by omega⟩
    obtain⟨va6,vc6,vn6,hvn6,hv6⟩ : ∃a c x,x=(ps ++ [(⟨n,ua,un,uc⟩ : SubV)]).length/\Value.slice (some ⟨g2,0,none⟩) (vn+1) cap2=.slice a x c:=⟨_,_,_,rfl,by rw[List.length_append,<- hvn.out];rfl⟩
    rw[hv6]at O6 hov6 ⊢
    have hvm6:vn6<=2000001:=by injection hv6 with _ h2 _;omega
    have hsz6:sb+1<=w6.heap.size:=by simp at hs6;omega
    generalize (ps ++ [(⟨n,ua,un,uc⟩ : SubV)])=ps6 at *
    generalize hL6:bndL σ n u j false ++ [(n,u)]=L6 at *
    replace O6:=kH O6;replace hvn6:=kH hvn6;replace hov6:=kH hov6
    clear hv6 hL6 k6 hs6 hgrow6 hown6 hat6 hlt6 hbA hzA hz4' hown hbase hsov hvn O4 hvm s_0 s_1 hsS n4_0 n4_1 hsN4 S N4 hov hU4 d2 hw4
    (obtain⟨s6_0,s6_1⟩:=S6.box2;have hsS6:=bLt s6_0;have cB:∀W,Below w6.heap.size w6 W->Calls Tryz.prog 24 #[.agg #[.slice ta tn tc],.slice (some ⟨nb,0,none⟩) 1 1] W (fun e w'=>∃v,e=.returned (.agg #[v])/\OwnT w6.heap.size w' v (flatY (subY [(n,u)] t))/\Below W.heap.size W w'):=(fun W hW=>(cA.out _ t W _ htz htN (hone.out W nb (N6.below hW) (hw6.trans (hW.mono hw6.size))) (htK.out W (hw6.trans (hW.mono hw6.size)))).mono (by rintro e w' ⟨v,h1,h2,h3⟩;exact⟨v,h1,h2.mono hW.size,h3⟩));replace cB:=kH cB;have hown6:=O6.out.own.1;rw[<- hvn6.out]at hown6;replace hown6:=kH hown6;have hbase6:=kH O6.out.own.base;have hsz8:nb+1<=w6.heap.size:=(by omega);go_region_held3 (fun w'=>w'.cell? ⟨sb,0,none⟩=some (.int .i64 k)/\w'.cell? ⟨sb,1,none⟩=some (.slice ta tn tc)) (first|exact⟨s6_0,s6_1⟩|exact⟨x_0,x_1⟩|exact⟨y_0,y_1⟩|go_keep) (first|(go_at_call 24;(with_reducible refine(cB.out _ (by go_grown)).mono ?_);rintro e w7 ⟨v7,rfl,T7,hb7'⟩;have hb7:Below w6.heap.size w6 w7:=Below.trans (by go_grown) hb7';obtain⟨a7,c7,rfl⟩:=T7.form;obtain⟨n7,hn7⟩ : ∃x,x=(flatY (subY [(n,u)] t)).length:=⟨_,rfl⟩;rw[<- hn7]at T7 ⊢;have X7:=S6.below hb7;obtain⟨x_0,x_1⟩:=X7.box2;have hz7:=hb7.size;replace T7:=kH T7;replace hn7:=kH hn7;replace hb7:=kH hb7;clear X7 hb7')|((refine step_append_lies _ (by rfl) _ _ _ (by rfl) (nb+1) 119 iS _ 2 32 Tryz.underlying59 IS.out IS0.out IS1.out IS2.out rfl (by omega) _ (vn6) (rowsOf subRow ps6) (by rfl) (own_below hown6.out (hb7.out.trans (Below.mono (by go_grown) hb7.out.size))) ⟨w7.heap.size,0,none⟩ 1 1 [.int .i64 k,.slice a7 n7 c7] (by rfl) (by rfl) (World.news_of_block (cs:=#[.int .i64 k,.slice a7 n7 c7]) (t:=119) (fr:=(0,0)) (heap_alloc_new' _ _ _ (by simp))) (by intro u hu;simp at hu;repeat' first|(subst hu;rfl)|rcases hu with hu|hu) (by omega) (by unfold maxLen;omega) (by omega) (by simp;omega) _ rfl ?_;intro g8 cap8 w8 hown8 hgrow8 hat8 hlt8);have k8:=kept_of hgrow8 (w:=w6) (hb7.out.trans (Below.mono (by go_grown) hb7.out.size));obtain⟨y_0,y_1⟩:=(S6.kept k8 (fun e=>(hov6.out _ e.symm).2 rfl)).box2)))
    (have hbA8:Below w6.heap.size w6 (w7.alloc (.cells #[.int .i64 k,.slice a7 n7 c7] 119)):=hb7.out.trans (Below.mono (by go_grown) hb7.out.size);have hbA7:Below w7.heap.size w7 (w7.alloc (.cells #[.int .i64 k,.slice a7 n7 c7] 119)):=(by go_grown);have hzA7:(w7.alloc (.cells #[.int .i64 k,.slice a7 n7 c7] 119)).heap.size=w7.heap.size+1:=(by simp);have hs8:=hgrow8.size;have hb8:=T7.out.base;have h6b:=hbase6.out;have O8:=O6.out.push (p:=⟨k,a7,n7,c7⟩) (q:=(k,subY [(n,u)] t)) hvn6.out hbA8 hown8 hgrow8 (by rcases hat8 with h|h;exact .inl h;exact .inr (by omega)) rfl hp64.out (((T7.out.sl flatTyItem).mono GTyItem.good (by have:=hw6.size;omega)).below GTyItem.good hbA7) (fun b hb=>by have:=hb8 b hb;omega) (fun g hg e=>by have:=h6b g hg;have:=hb8 g e;omega);rw[<- hnew.out]at O8;have N8:=N6.kept k8 (fun e=>(hov6.out _ e.symm).1 rfl);have hnw:=hw3.size;have hnb':=hnb.out;have hw8:Below w.heap.size w w8:=below_grown2 (wr:=w6) (base:=w.heap.size) hgrow8 hbA8 hw6 hw6.size (own_lo hown6.out (by omega));have hov8:∀g,(Value.slice (some ⟨g8,0,none⟩) (vn6+1) cap8).ownBlock=some g->g≠nb:=(fun g hg=>by obtain rfl:g8=g:=(by simpa [Value.ownBlock] using hg);rcases hat8 with h|h;exact(hov6.out g8 h).1;omega);clear hb8 h6b hnb' hnw;go_wp2_with fail;go_roundw)
    case rel=>exact⟨j+1,_,_,_,rfl,by omega,rfl,by go_num,kH O8,hok2,kH hov8,N8,hw8,by omega⟩
    case measure=>simp[intOf];omega
   ·cases dn
    all_goals (try (obtain hlk : ¬ n<k:=fun h=>hc2 ⟨rfl,h⟩))
    ·obtain⟨hnew,hok2⟩:=bnd_not (u:=u) hK.out P1.out hlk
     have d2:decide (n<k)=false:=decide_eq_false hlk
     (dsimp only at hnew;have hov6:∀g,ov.ownBlock=some g->g≠nb/\g≠sb:=(fun g hg=>⟨hov.out g hg,by have:=hsov g hg;omega⟩);obtain⟨va6,vc6,rfl⟩:=O4.own.form;obtain⟨vn6,hvn6⟩ : ∃x,x=ps.length:=⟨_,rfl⟩;rw[<- hvn6]at O4 hov6 hpsl ⊢;have hvm6:vn6<=2000001:=(by omega);have hz4':=hz4.out;have hsz6:sb+1<=w4.heap.size:=(by omega);replace O4:=kH O4;replace hvn6:=kH hvn6;replace hov6:=kH hov6;replace hnew:=kH hnew;replace hok2:=kH hok2;clear hz4' hpsl hbl hsov hov;go_upto_region 12 with fail;generalize hps6:ps=ps6 at *;generalize hL6:bndL σ n u j _=L6 at *;have O6:=O4;have S6:=S;have N6:=N4;have hw6:=hw4;clear s_0 s_1 hsS n4_0 n4_1 hsN4 S N4 hU4 hw4 O4 hps6 hL6;clear hz4;generalize w4=w6 at *)
     (obtain⟨s6_0,s6_1⟩:=S6.box2;have hsS6:=bLt s6_0;have cB:∀W,Below w6.heap.size w6 W->Calls Tryz.prog 24 #[.agg #[.slice ta tn tc],.slice (some ⟨nb,0,none⟩) 1 1] W (fun e w'=>∃v,e=.returned (.agg #[v])/\OwnT w6.heap.size w' v (flatY (subY [(n,u)] t))/\Below W.heap.size W w'):=(fun W hW=>(cA.out _ t W _ htz htN (hone.out W nb (N6.below hW) (hw6.trans (hW.mono hw6.size))) (htK.out W (hw6.trans (hW.mono hw6.size)))).mono (by rintro e w' ⟨v,h1,h2,h3⟩;exact⟨v,h1,h2.mono hW.size,h3⟩));replace cB:=kH cB;have hown6:=O6.out.own.1;rw[<- hvn6.out]at hown6;replace hown6:=kH hown6;have hbase6:=kH O6.out.own.base;have hsz8:nb+1<=w6.heap.size:=(by omega);go_region_held3 (fun w'=>w'.cell? ⟨sb,0,none⟩=some (.int .i64 k)/\w'.cell? ⟨sb,1,none⟩=some (.slice ta tn tc)) (first|exact⟨s6_0,s6_1⟩|exact⟨x_0,x_1⟩|exact⟨y_0,y_1⟩|go_keep) (first|(go_at_call 24;(with_reducible refine(cB.out _ (by go_grown)).mono ?_);rintro e w7 ⟨v7,rfl,T7,hb7'⟩;have hb7:Below w6.heap.size w6 w7:=Below.trans (by go_grown) hb7';obtain⟨a7,c7,rfl⟩:=T7.form;obtain⟨n7,hn7⟩ : ∃x,x=(flatY (subY [(n,u)] t)).length:=⟨_,rfl⟩;rw[<- hn7]at T7 ⊢;have X7:=S6.below hb7;obtain⟨x_0,x_1⟩:=X7.box2;have hz7:=hb7.size;replace T7:=kH T7;replace hn7:=kH hn7;replace hb7:=kH hb7;clear X7 hb7')|((refine step_append_lies _ (by rfl) _ _ _ (by rfl) (nb+1) 119 iS _ 2 32 Tryz.underlying59 IS.out IS0.out IS1.out IS2.out rfl (by omega) _ (vn6) (rowsOf subRow ps6) (by rfl) (own_below hown6.out (hb7.out.trans (Below.mono (by go_grown) hb7.out.size))) ⟨w7.heap.size,0,none⟩ 1 1 [.int .i64 k,.slice a7 n7 c7] (by rfl) (by rfl) (World.news_of_block (cs:=#[.int .i64 k,.slice a7 n7 c7]) (t:=119) (fr:=(0,0)) (heap_alloc_new' _ _ _ (by simp))) (by intro u hu;simp at hu;repeat' first|(subst hu;rfl)|rcases hu with hu|hu) (by omega) (by unfold maxLen;omega) (by omega) (by simp;omega) _ rfl ?_;intro g8 cap8 w8 hown8 hgrow8 hat8 hlt8);have k8:=kept_of hgrow8 (w:=w6) (hb7.out.trans (Below.mono (by go_grown) hb7.out.size));obtain⟨y_0,y_1⟩:=(S6.kept k8 (fun e=>(hov6.out _ e.symm).2 rfl)).box2)))
     (have hbA8:Below w6.heap.size w6 (w7.alloc (.cells #[.int .i64 k,.slice a7 n7 c7] 119)):=hb7.out.trans (Below.mono (by go_grown) hb7.out.size);have hbA7:Below w7.heap.size w7 (w7.alloc (.cells #[.int .i64 k,.slice a7 n7 c7] 119)):=(by go_grown);have hzA7:(w7.alloc (.cells #[.int .i64 k,.slice a7 n7 c7] 119)).heap.size=w7.heap.size+1:=(by simp);have hs8:=hgrow8.size;have hb8:=T7.out.base;have h6b:=hbase6.out;have O8:=O6.out.push (p:=⟨k,a7,n7,c7⟩) (q:=(k,subY [(n,u)] t)) hvn6.out hbA8 hown8 hgrow8 (by rcases hat8 with h|h;exact .inl h;exact .inr (by omega)) rfl hp64.out (((T7.out.sl flatTyItem).mono GTyItem.good (by have:=hw6.size;omega)).below GTyItem.good hbA7) (fun b hb=>by have:=hb8 b hb;omega) (fun g hg e=>by have:=h6b g hg;have:=hb8 g e;omega);rw[<- hnew.out]at O8;have N8:=N6.kept k8 (fun e=>(hov6.out _ e.symm).1 rfl);have hnw:=hw3.size;have hnb':=hnb.out;have hw8:Below w.heap.size w w8:=below_grown2 (wr:=w6) (base:=w.heap.size) hgrow8 hbA8 hw6 hw6.size (own_lo hown6.out (by omega));have hov8:∀g,(Value.slice (some ⟨g8,0,none⟩) (vn6+1) cap8).ownBlock=some g->g≠nb:=(fun g hg=>by obtain rfl:g8=g:=(by simpa [Value.ownBlock] using hg);rcases hat8 with h|h;exact(hov6.out g8 h).1;omega);clear hb8 h6b hnb' hnw;go_wp2_with fail;go_roundw)
     case rel=>exact⟨j+1,_,_,_,rfl,by omega,rfl,by go_num,kH O8,hok2,kH hov8,N8,hw8,by omega⟩
     case measure=>simp[intOf];omega
    ·obtain⟨hnew,hok2⟩:=bnd_done (u:=u) hK.out P1.out
     (dsimp only at hnew;have hov6:∀g,ov.ownBlock=some g->g≠nb/\g≠sb:=(fun g hg=>⟨hov.out g hg,by have:=hsov g hg;omega⟩);obtain⟨va6,vc6,rfl⟩:=O4.own.form;obtain⟨vn6,hvn6⟩ : ∃x,x=ps.length:=⟨_,rfl⟩;rw[<- hvn6]at O4 hov6 hpsl ⊢;have hvm6:vn6<=2000001:=(by omega);have hz4':=hz4.out;have hsz6:sb+1<=w4.heap.size:=(by omega);replace O4:=kH O4;replace hvn6:=kH hvn6;replace hov6:=kH hov6;replace hnew:=kH hnew;replace hok2:=kH hok2;clear hz4' hpsl hbl hsov hov;go_upto_region 12 with fail;generalize hps6:ps=ps6 at *;generalize hL6:bndL σ n u j _=L6 at *;have O6:=O4;have S6:=S;have N6:=N4;have hw6:=hw4;clear s_0 s_1 hsS n4_0 n4_1 hsN4 S N4 hU4 hw4 O4 hps6 hL6;clear hz4;generalize w4=w6 at *)
     (obtain⟨s6_0,s6_1⟩:=S6.box2;have hsS6:=bLt s6_0;have cB:∀W,Below w6.heap.size w6 W->Calls Tryz.prog 24 #[.agg #[.slice ta tn tc],.slice (some ⟨nb,0,none⟩) 1 1] W (fun e w'=>∃v,e=.returned (.agg #[v])/\OwnT w6.heap.size w' v (flatY (subY [(n,u)] t))/\Below W.heap.size W w'):=(fun W hW=>(cA.out _ t W _ htz htN (hone.out W nb (N6.below hW) (hw6.trans (hW.mono hw6.size))) (htK.out W (hw6.trans (hW.mono hw6.size)))).mono (by rintro e w' ⟨v,h1,h2,h3⟩;exact⟨v,h1,h2.mono hW.size,h3⟩));replace cB:=kH cB;have hown6:=O6.out.own.1;rw[<- hvn6.out]at hown6;replace hown6:=kH hown6;have hbase6:=kH O6.out.own.base;have hsz8:nb+1<=w6.heap.size:=(by omega);go_region_held3 (fun w'=>w'.cell? ⟨sb,0,none⟩=some (.int .i64 k)/\w'.cell? ⟨sb,1,none⟩=some (.slice ta tn tc)) (first|exact⟨s6_0,s6_1⟩|exact⟨x_0,x_1⟩|exact⟨y_0,y_1⟩|go_keep) (first|(go_at_call 24;(with_reducible refine(cB.out _ (by go_grown)).mono ?_);rintro e w7 ⟨v7,rfl,T7,hb7'⟩;have hb7:Below w6.heap.size w6 w7:=Below.trans (by go_grown) hb7';obtain⟨a7,c7,rfl⟩:=T7.form;obtain⟨n7,hn7⟩ : ∃x,x=(flatY (subY [(n,u)] t)).length:=⟨_,rfl⟩;rw[<- hn7]at T7 ⊢;have X7:=S6.below hb7;obtain⟨x_0,x_1⟩:=X7.box2;have hz7:=hb7.size;replace T7:=kH T7;replace hn7:=kH hn7;replace hb7:=kH hb7;clear X7 hb7')|((refine step_append_lies _ (by rfl) _ _ _ (by rfl) (nb+1) 119 iS _ 2 32 Tryz.underlying59 IS.out IS0.out IS1.out IS2.out rfl (by omega) _ (vn6) (rowsOf subRow ps6) (by rfl) (own_below hown6.out (hb7.out.trans (Below.mono (by go_grown) hb7.out.size))) ⟨w7.heap.size,0,none⟩ 1 1 [.int .i64 k,.slice a7 n7 c7] (by rfl) (by rfl) (World.news_of_block (cs:=#[.int .i64 k,.slice a7 n7 c7]) (t:=119) (fr:=(0,0)) (heap_alloc_new' _ _ _ (by simp))) (by intro u hu;simp at hu;repeat' first|(subst hu;rfl)|rcases hu with hu|hu) (by omega) (by unfold maxLen;omega) (by omega) (by simp;omega) _ rfl ?_;intro g8 cap8 w8 hown8 hgrow8 hat8 hlt8);have k8:=kept_of hgrow8 (w:=w6) (hb7.out.trans (Below.mono (by go_grown) hb7.out.size));obtain⟨y_0,y_1⟩:=(S6.kept k8 (fun e=>(hov6.out _ e.symm).2 rfl)).box2)))
     (have hbA8:Below w6.heap.size w6 (w7.alloc (.cells #[.int .i64 k,.slice a7 n7 c7] 119)):=hb7.out.trans (Below.mono (by go_grown) hb7.out.size);have hbA7:Below w7.heap.size w7 (w7.alloc (.cells #[.int .i64 k,.slice a7 n7 c7] 119)):=(by go_grown);have hzA7:(w7.alloc (.cells #[.int .i64 k,.slice a7 n7 c7] 119)).heap.size=w7.heap.size+1:=(by simp);have hs8:=hgrow8.size;have hb8:=T7.out.base;have h6b:=hbase6.out;have O8:=O6.out.push (p:=⟨k,a7,n7,c7⟩) (q:=(k,subY [(n,u)] t)) hvn6.out hbA8 hown8 hgrow8 (by rcases hat8 with h|h;exact .inl h;exact .inr (by omega)) rfl hp64.out (((T7.out.sl flatTyItem).mono GTyItem.good (by have:=hw6.size;omega)).below GTyItem.good hbA7) (fun b hb=>by have:=hb8 b hb;omega) (fun g hg e=>by have:=h6b g hg;have:=hb8 g e;omega);rw[<- hnew.out]at O8;have N8:=N6.kept k8 (fun e=>(hov6.out _ e.symm).1 rfl);have hnw:=hw3.size;have hnb':=hnb.out;have hw8:Below w.heap.size w w8:=below_grown2 (wr:=w6) (base:=w.heap.size) hgrow8 hbA8 hw6 hw6.size (own_lo hown6.out (by omega));have hov8:∀g,(Value.slice (some ⟨g8,0,none⟩) (vn6+1) cap8).ownBlock=some g->g≠nb:=(fun g hg=>by obtain rfl:g8=g:=(by simpa [Value.ownBlock] using hg);rcases hat8 with h|h;exact(hov6.out g8 h).1;omega);clear hb8 h6b hnb' hnw;go_wp2_with fail;go_roundw)
     case rel=>exact⟨j+1,_,_,_,rfl,by omega,rfl,by go_num,kH O8,hok2,kH hov8,N8,hw8,by omega⟩
     case measure=>simp[intOf];omega
  ·obtain rfl:j=m:=by omega
   have hK':=hK.out
   have OE:=O.out
   have hjm:=hm.out
   have hvm9:ps.length<=2000001:=by omega
   rw[hjm]at hK' OE
   obtain⟨hE1,hE2⟩:=bnd_end (u:=u) hK'
   obtain⟨LF,hLF⟩ : ∃l,l=insS n u (mapS n u σ):=⟨_,rfl⟩
   rw[<- hLF]at hE1 hE2 hb0 hb4
   have hU4:=kH (hU.out wr hw)
   obtain⟨va,vc,rfl⟩:=OE.own.form
   obtain⟨vn,hvn⟩ : ∃y,y=ps.length:=⟨_,rfl⟩
   have hown:=OE.own.1
   have hbase:=OE.own.base
   rw[<- hvn]at hown hbase OE hvm9 ⊢
   replace hvn:=kH hvn;replace hown:=kH hown;replace hbase:=kH hbase;replace OE:=kH OE;replace hE1:=kH hE1;replace hE2:=kH hE2;replace hw:=hw
   clear hpsl hbl hjm hLF O hK hK' hov
   obtain⟨n_0,n_1⟩:=N.box2;have hsN:=bLt n_0
   cases dn
   case' false=>
    go_upto_region 16 with((at_builtin;refine wpList_append_lies _ rfl _ _ _ rfl (nb+1) 119 iS _ 2 32 Tryz.underlying59 IS.out IS0.out IS1.out IS2.out rfl (by omega) (.slice va vn vc) (vn) (rowsOf subRow ps) rfl (own_below hown.out (by go_grown)) ⟨wr.heap.size,0,none⟩ 1 1 [.int .i64 n,.slice ua un uc] rfl rfl (World.news_of_block (cs:=#[.int .i64 n,.slice ua un uc]) (t:=119) (fr:=(0,0)) (heap_alloc_new' _ _ _ (by simp))) (by intro u hu;simp at hu;repeat' first|(subst hu;rfl)|rcases hu with hu|hu) (by omega) (by unfold maxLen;omega) (by omega) (by simp;omega) _ rfl ?_;intro g2 cap2 w6 hown6 hgrow6 hat6 hlt6))
    have hbA:Below wr.heap.size wr (wr.alloc (.cells #[.int .i64 n,.slice ua un uc] 119)):=by go_grown
    have hzA:(wr.alloc (.cells #[.int .i64 n,.slice ua un uc] 119)).heap.size=wr.heap.size+1:=by simp
    have O6:=OE.out.push (p:=⟨n,ua,un,uc⟩) (q:=(n,u)) hvn.out hbA hown6 hgrow6 (by rcases hat6 with h|h;exact .inl h;exact .inr (by omega)) rfl hn64 (hU4.out.below GTyItem.good hbA) (fun b hb=>by have:=hubk.out b hb;omega) (fun g hg e=>by have:=hubk.out g e;have:=hbase.out g hg;omega)
    rw[<- hE2.out (by simp)]at O6
    have SL9:=O6.sl (by have:=hw3.size;have:=hnb.out;omega)
    have hw9:Below w.heap.size w w6:=below_grown2 (wr:=wr) (base:=w.heap.size) hgrow6 hbA hw hw.size (own_lo hown.out (by have:=hw3.size;have:=hnb.out;omega))
    obtain⟨va9,vc9,vn9,hv9⟩ : ∃a c x,Value.slice (some ⟨g2,0,none⟩) (vn+1) cap2=.slice a x c:=⟨_,_,_,rfl⟩
    rw[hv9]at SL9 ⊢
    have hvm9:vn9<=2000002:=by injection hv9 with _ h2 _;omega
    clear hv9 hgrow6 hown6 hat6 hlt6 hbA hzA O6
    generalize w6=w9 at *
   case' true=>
    have O6:=OE.out
    rw[<- hE1.out (by simp)]at O6
    have SL9:=O6.sl (by have:=hw3.size;have:=hnb.out;omega)
    have hw9:=hw
    clear O6
    go_upto_region 16 with fail
    generalize hva9:va=va9 at *
    generalize hvn9' : vn=vn9 at *
    generalize hvc9:vc=vc9 at *
    clear n_0 n_1 hsN N
    generalize hwr9:wr=w9 at *
   all_goals
    have hret:∀W,Below w9.heap.size w9 W->(∀p∈LF,¬ 200<szY p.2)->Q (.returned (.tuple #[.slice va9 vn9 vc9,.int .i64 0])) W:=fun W hW h=>hpost.out W _ (0,LF) ⟨_,_,_,rfl⟩ (hb0.out (by simp) h) (fun _=>SL9.below SubR.good hW) (hw9.trans (hW.mono hw9.size))
    have hbig:∀W p,Below w9.heap.size w9 W->p∈LF->200<szY p.2->Q (.returned (.tuple #[.slice none 0 0,.int .i64 4])) W:=fun W p hW h h'=>hpost.out W _ (4,[]) ⟨_,_,_,rfl⟩ (hb4.out (by simp) ⟨p,h,h'⟩) (fun h=>by simp at h) (hw9.trans (hW.mono hw9.size))
    obtain⟨fa,fc,hfv,fl,fm,f0⟩:=SL9
    obtain⟨rfl,hvn9,rfl⟩ : va9=fa/\vn9=LF.length/\vc9=fc:=by injection hfv with h1 h2 h3;exact⟨h1,h2,h3⟩
    have fK:∀W,Below w9.heap.size w9 W->SlAt SubR 2 lo W va9 LF:=fun W hW=>f0.below SubR.good hW
    replace hvn9:=kH hvn9;replace fK:=kH fK;replace hret:=kH hret;replace hbig:=kH hbig
    clear hfv fl f0
    go_wp2_with fail
    go_loopw [65] (fun ii wr=>∃ (j:Nat),j<=vn9/\ii=.int .i64 j/\Hid (∀p∈LF.take j,¬ 200<szY p.2)/\Below w9.heap.size w9 wr) (fun ii _=>vn9-(intOf ii).toNat)
    case atStart=>exact⟨0,by omega,rfl,kH (fun p hp=>by simp at hp),Below.refl _ _⟩
    case round=>
     obtain⟨j,hj,rfl,hsm,hwr⟩:=hrel
     by_cases hlt:j<vn9
     ·obtain⟨b2,o2,p,r2,_,rfl,P2,⟨tv,rfl,hp64,ht⟩,r2w⟩:=(fK.out _ hwr).get hvn9.out hlt
      obtain⟨k,t⟩:=p
      obtain⟨ta,tc,rfl⟩:=ht.form
      obtain⟨tn,htn⟩ : ∃x,x=(flatY t).length:=⟨_,rfl⟩
      dsimp only at hp64 ht r2w
      rw[<- htn]at r2w
      rw[flatY_len]at htn
      have e_0:=by simpa using r2w 0 _ rfl
      have e_1:=r2w 1 _ rfl
      clear r2w ht
      have hbb2:=World.block_lt_of_cell? _ _ e_0;dsimp only at hbb2
      have hpm:=List.mem_of_getElem? P2.out
      go_upto_if 73 with fail
      by_cases h200:200<szY t
      ·have d73:decide ((200:Int)<(tn:Int))=true:=decide_eq_true (by omega)
       replace htn:=kH htn
       go_wp2_with fail
       exact hbig.out _ (k,t) (hwr.trans (Below.mono (by go_grown) hwr.size)) hpm h200
      ·have d73:decide ((200:Int)<(tn:Int))=false:=decide_eq_false (by omega)
       replace htn:=kH htn
       go_wp2_with fail
       go_roundw
       case rel=>
        refine⟨j+1,by omega,by go_num,kH (fun p hp=>?_),hwr.trans (Below.mono (by go_grown) hwr.size)⟩
        rw[List.take_add_one,P2.out,Option.toList_some,List.mem_append]at hp
        rcases hp with hp|hp
        ·exact hsm.out p hp
        ·simp only[List.mem_singleton]at hp;subst hp;exact h200
       case measure=>simp[intOf];omega
     ·have hall:∀p∈LF,¬ 200<szY p.2:=by
       have h:=hsm.out
       rwa [List.take_of_length_le (by have:=hvn9.out;omega)]at h
      replace hall:=kH hall
      go_wp2_with fail
      exact hret.out _ hwr hall.out
end Go.Proofs.YtkikkfjmggobpaaGreat
