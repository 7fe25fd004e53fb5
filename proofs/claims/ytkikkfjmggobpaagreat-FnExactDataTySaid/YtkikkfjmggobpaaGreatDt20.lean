/- Parts of the proof, merged: Ut11, Ut5, Ut51, Ut52, CanY. -/
import Derived.Lib.AppendZerosOnto
import Derived.Lib.AppendZeros
import Derived.Lib.Overlaps
import Derived.Lib.SliceRun
import Derived.Lib.Walk
import Derived.Laws.Externs
import Derived.Laws.IdiomCopy
import Derived.Laws.NewBlocks
import Derived.Test.YtkikkfjmggobpaaGreatDt19
namespace Go.Proofs.YtkikkfjmggobpaaGreat
open Go.RowKit
set_option maxRecDepth 100000
set_option maxHeartbeats 16000000
set_option linter.unusedVariables false
set_option linter.unusedSimpArgs false
attribute [local go_sem] Ext.cell
def ownL (name:ByteArray) (pr j:Nat):List GTyItem:=⟨0,name,(pr:Int)⟩ :: (List.range j).map fun(v:Nat)=>⟨(v:Int),⟨#[]⟩,0⟩
theorem ownL_full (name:ByteArray):∀k,k<=2->ownL name k k=flatY (ownY name 0 k)
 |0,_=>rfl
 |1,_=>rfl
 |2,_=>rfl
 |k+3,h=>by omega
theorem ownL_succ (name:ByteArray) (pr j:Nat):ownL name pr (j+1)=ownL name pr j ++ [⟨(j:Int),⟨#[]⟩,0⟩]:=by unfold ownL;rw[List.range_succ,List.map_append];rfl
theorem ownL_len (name:ByteArray) (pr j:Nat):(ownL name pr j).length=j+1:=by unfold ownL;simp
theorem conOfC_c (wp:World) (T:List GType) (hT:TysOk T) (tv:Value) (w:World) (hM:Sl GType.R 3 0 wp tv T) (hp3:Below wp.heap.size wp w) (name:ByteArray) (hA : ¬ (name=nmTrue\/name=nmFalse)) (hB : ¬ (name=nmNil\/name=nmCons)) :
  Calls Tryz.prog 119 #[tv,.string name] w (CoPost wp (conT T name) w):=by
 have hcN:findC name T=none->conT T name=none:=fun h=>by unfold conT;rw[if_neg hA,if_neg hB,h]
 have hcS:∀t c,findC name T=some (t,c)->conT T name=some ⟨ownY t.name 0 t.params.toNat,treeY c.arg.items,c.has,t.params.toNat⟩:=fun t c h=>by unfold conT;rw[if_neg hA,if_neg hB,h]
 have hmiss:findC name T=none->∀W,Below w.heap.size w W->CoPost wp (conT T name) w (.returned (.tuple #[.slice none 0 0,.slice none 0 0,.int .i64 0,.bool false])) W:=fun h0 W h1=>by
  rw[hcN h0]
  exact⟨_,_,rfl,fun d hd=>(by cases hd),h1⟩
 have hhit:∀t c,findC name T=some (t,c)->∀W v1 v2,Below w.heap.size w W->Sl GTyItem.R 3 w.heap.size W v1 (flatY (ownY t.name 0 t.params.toNat))->Stay wp w W v2 (if c.has=true then c.arg.items else [])->(∃a n c,v2=Value.slice a n c)->CoPost wp (conT T name) w (.returned (.tuple #[v1,v2,.int .i64 (t.params.toNat:Nat),.bool true])) W:=fun t c h0 W v1 v2 h1 h5 h6 h7f=>by
  rw[hcS t c h0]
  refine⟨v1,v2,rfl,fun d hd=>?_,h1⟩
  obtain rfl:=Option.some.inj hd
  refine⟨h5,?_,h7f⟩
  unfold ConT.argL
  dsimp only
  by_cases hh:c.has=true
  ·obtain⟨m1,m2⟩:=findC_mem h0
   obtain⟨-,-,-,h7⟩:=typeOk_parts (hT t m1).1
   obtain⟨h8,h9,-⟩:=conHas_yes (h7 c m2).1 hh
   rw[if_pos hh]at h6 ⊢
   rw[<- h8];exact h6
  ·rw[if_neg hh]at h6 ⊢;exact h6
 generalize CoPost wp (conT T name) w=Q at *
 obtain⟨ta,tc,rfl,tl,tm,t0⟩:=hM
 obtain⟨tn,hTl⟩ : ∃q,q=T.length:=⟨_,rfl⟩
 rw[<- hTl]at tl ⊢
 have c1:(name.toList == [116,114,117,101])=false:=(str_lit name [116,114,117,101]).trans (decide_eq_false (fun h=>hA (.inl h)))
 have c2:(name.toList == [102,97,108,115,101])=false:=(str_lit name [102,97,108,115,101]).trans (decide_eq_false (fun h=>hA (.inr h)))
 have c3:(name.toList == [91,93])=false:=(str_lit name [91,93]).trans (decide_eq_false (fun h=>hB (.inl h)))
 have c4:(name.toList == [58,58])=false:=(str_lit name [58,58]).trans (decide_eq_false (fun h=>hB (.inr h)))
 have hbw:SlAt GType.R 3 0 wp ta T:=t0
 have hpw:∀W,Below w.heap.size w W->Below wp.heap.size wp W:=fun W hW=>hp3.trans (hW.mono hp3.size)
 clear hA hB hcN hcS
 replace hmiss:=kH hmiss;replace hhit:=kH hhit;replace hTl:=kH hTl;replace hbw:=kH hbw;replace hpw:=kH hpw;replace hT:=kH hT
 clear t0 hp3
 obtain⟨iI,hi0,hz0,hz1,hz2⟩:=info_parts info_TyItemU;have II:=kH hi0;have II0:=kH hz0;have II1:=kH hz1;have II2:=kH hz2;clear hi0 hz0 hz1 hz2
 go_enter Tryz.func119,Tryz.ntmps119
 go_upto_region 2 with fail
 obtain⟨w0,hW0⟩ : ∃W,W=w.alloc (.cells #[.int .i64 0,.string nmList,.int .i64 1,.int .i64 0,.string ⟨#[]⟩,.int .i64 0] 107):=⟨_,rfl⟩
 rw[<- hW0]
 have hw0:Below w.heap.size w w0:=by rw[hW0];go_grown
 clear hW0
 go_wp2_with fail
 clear c1 c2 c3 c4
 go_loopw [37] (fun ii wr=>∃i:Nat,i<=tn/\ii=.int .i64 i/\Hid (findC name (T.take i)=none)/\Below w.heap.size w wr) (fun ii _=>tn-(intOf ii).toNat)
 case atStart=>exact⟨0,by omega,rfl,kH rfl,hw0⟩
 case round=>
  clear hw0
  obtain⟨i,hi,rfl,hfi,hw⟩:=hrel
  have hz:=hw.size
  by_cases hlt2:i<tn
  ·obtain⟨b1,o1,t,r1,_,rfl,P1',⟨u0,rfl,hwf,hcs⟩,hr1⟩:=(hbw.out).get hTl.out hlt2
   replace hr1:=hr1.below (hpw.out wr hw)
   obtain⟨ca,cc,rfl⟩:=hcs.form
   have htm:=List.mem_of_getElem? P1'.out
   obtain⟨htok,-,hcwf⟩:=hT.out t htm
   obtain⟨htn,htp,htc8,htc9⟩:=typeOk_parts htok
   obtain⟨pr,hpr⟩ : ∃pr:Nat,t.params=(pr:Int):=⟨t.params.toNat,by omega⟩
   have hpr2:pr<=2:=by omega
   have hTs:T=T.take i++t :: T.drop (i+1):=by
    obtain⟨h1,rfl⟩:=List.getElem?_eq_some_iff.1 P1'.out
    rw[<- List.drop_eq_getElem_cons h1,List.take_append_drop]
   have hskip:(∀c∈t.cons,c.name≠name)->findC name (T.take (i+1))=none:=fun h=>by
    rw[List.take_add_one,P1'.out,Option.toList_some,findC_skip hfi.out h];rfl
   have hhit1:∀A B c,t.cons=A++c :: B->(∀d∈A,d.name≠name)->c.name=name->findC name T=some (t,c):=fun A B c h1 h2 h3=>by
    conv=>lhs;rw[hTs]
    exact findC_hit hfi.out h1 h2 h3
   have hh2:=fun c h=>hhit.out t c h
   rw[hpr]at hh2 hr1
   rw[show((pr:Int)).toNat=pr by omega]at hh2
   have cK:SlAt GCon.R 3 0 wp ca t.cons:=by
    obtain⟨a',c',hv,h1,h2,h3⟩:=hcs
    injection hv with e1 e2 e3;subst e1;exact h3
   obtain⟨cn,hcn⟩ : ∃q,q=t.cons.length:=⟨_,rfl⟩
   obtain⟨tnm,htnm⟩ : ∃q,q=t.name:=⟨_,rfl⟩
   rw[<- hcn,<- htnm]at hr1
   rw[<- htnm]at hh2
   have hcn8:cn<=8:=by omega
   have hsT:StrOk tnm:=by rw[htnm];exact hwf.1
   have e_0:wr.cell? ⟨b1,o1+i*3,none⟩=some (.string tnm):=by simpa using hr1 0 _ rfl
   have e_1:wr.cell? ⟨b1,o1+i*3+1,none⟩=some (.int .i64 (pr:Int)):=hr1 1 _ rfl
   have e_2:wr.cell? ⟨b1,o1+i*3+2,none⟩=some (.slice ca cn cc):=hr1 2 _ rfl
   have hbb1:=World.block_lt_of_cell? _ _ e_0;dsimp only at hbb1
   clear hr1 hcs hTs htok hwf htp htn htc8
   replace htm:=kH htm;replace hcwf:=kH hcwf;replace htc9:=kH htc9;replace hpr:=kH hpr;replace hskip:=kH hskip;replace hhit1:=kH hhit1;replace hh2:=kH hh2;replace cK:=kH cK;replace hcn:=kH hcn;replace htnm:=kH htnm;replace hsT:=kH hsT
   go_upto_region 13 with fail
   obtain⟨w2,hW2⟩ : ∃W,W=wr.alloc (.cells #[.string tnm,.int .i64 (pr:Int),.slice ca cn cc] 101):=⟨_,rfl⟩
   rw[<- hW2]
   have hb2:Below wr.heap.size wr w2:=by rw[hW2];go_grown
   have X2:RowAt w2 wr.heap.size 0 [.string tnm,.int .i64 (pr:Int),.slice ca cn cc]:=by rw[hW2];exact RowAt.box wr #[_,_,_] _
   have hw2:=hw.trans (hb2.mono hz)
   obtain⟨xb,hxb⟩ : ∃q,q=wr.heap.size:=⟨_,rfl⟩
   have hxw:w.heap.size<=xb:=by omega
   rw[<- hxb]at X2 ⊢
   replace hxb:=kH hxb;replace hb2:=kH hb2
   obtain⟨wt,rfl⟩ : ∃W,W=wr:=⟨_,rfl⟩
   clear hW2 e_0 e_1 e_2 hbb1
   obtain⟨x2_0,x2_1,x2_2⟩:=X2.box3;have hsX2:=bLt x2_0
   go_wp2_with fail
   go_loopw [44] (fun kk wq=>∃k:Nat,k<=cn/\kk=.int .i64 k/\Hid (∀c∈t.cons.take k,c.name≠name)/\Below w.heap.size w wq/\Hid (Below wt.heap.size wt wq)/\RowAt wq xb 0 [.string tnm,.int .i64 (pr:Int),.slice ca cn cc]) (fun kk _=>cn-(intOf kk).toNat)
   case atStart=>exact⟨0,by omega,rfl,kH (fun c h=>by simp at h),hw2,hb2,X2⟩
   case round=>
    clear hw2 hb2 x2_0 x2_1 x2_2 hsX2 X2 hw hz
    obtain⟨k,hk,rfl,hfk,hw,hbo,X⟩:=hrel
    have hz:=hw.size
    by_cases hlt3:k<cn
    ·obtain⟨b3,o3,c,r3,_,rfl,P3,⟨u0,rfl,hcw,hga⟩,hr3⟩:=(cK.out).get hcn.out hlt3
     replace hr3:=hr3.below (hpw.out wr hw)
     obtain⟨ga,gc,rfl⟩:=hga.form
     have hcm:=List.mem_of_getElem? P3.out
     obtain⟨hc1,hc2⟩:=htc9.out c hcm
     have htk:t.cons=t.cons.take k++c :: t.cons.drop (k+1):=by
      obtain⟨h1,rfl⟩:=List.getElem?_eq_some_iff.1 P3.out
      rw[<- List.drop_eq_getElem_cons h1,List.take_append_drop]
     have hnext:c.name≠name->∀d∈t.cons.take (k+1),d.name≠name:=fun h d hd=>by
      rw[List.take_add_one,P3.out,Option.toList_some,List.mem_append]at hd
      rcases hd with hd|hd
      ·exact hfk.out d hd
      ·simp only[List.mem_singleton]at hd;subst hd;exact h
     have hyes:c.name=name->_:=fun h=>hh2.out c (hhit1.out _ _ c htk hfk.out h)
     obtain⟨gn,hgn⟩ : ∃q,q=c.arg.items.length:=⟨_,rfl⟩
     obtain⟨cnm,hcnm⟩ : ∃q,q=c.name:=⟨_,rfl⟩
     obtain⟨chas,hch⟩ : ∃q,q=c.has:=⟨_,rfl⟩
     rw[<- hcnm]at hnext hyes
     rw[<- hgn,<- hcnm,<- hch]at hr3
     rw[<- hch]at hyes
     have hGK:∀W,Below wp.heap.size wp W->Sl GTyItem.R 3 0 W (.slice ga gn gc) c.arg.items:=fun W hW=>by rw[hgn];exact hga.below GTyItem.good hW
     have e_0:wr.cell? ⟨b3,o3+k*3,none⟩=some (.string cnm):=by simpa using hr3 0 _ rfl
     have e_1:wr.cell? ⟨b3,o3+k*3+1,none⟩=some (.bool chas):=hr3 1 _ rfl
     have e_2:wr.cell? ⟨b3,o3+k*3+2,none⟩=some (.slice ga gn gc):=hr3 2 _ rfl
     have hbb3:=World.block_lt_of_cell? _ _ e_0;dsimp only at hbb3
     clear hr3 hga htk hcw
     replace hcm:=kH hcm;replace hc1:=kH hc1;replace hc2:=kH hc2;replace hnext:=kH hnext;replace hyes:=kH hyes;replace hgn:=kH hgn;replace hcnm:=kH hcnm;replace hch:=kH hch;replace hGK:=kH hGK
     go_upto_region 16 with fail
     obtain⟨w4,hW4⟩ : ∃W,W=wr.alloc (.cells #[.string cnm,.bool chas,.slice ga gn gc] 105):=⟨_,rfl⟩
     rw[<- hW4]
     have hb4:Below wr.heap.size wr w4:=by rw[hW4];go_grown
     have C4:RowAt w4 wr.heap.size 0 [.string cnm,.bool chas,.slice ga gn gc]:=by rw[hW4];exact RowAt.box wr #[_,_,_] _
     have X4:=X.below hb4
     have hw4:=hw.trans (hb4.mono hz)
     have hbo4:=hbo.out.trans (hb4.mono hbo.out.size)
     obtain⟨cb,hcb⟩ : ∃q,q=wr.heap.size:=⟨_,rfl⟩
     rw[<- hcb]at C4 ⊢
     replace hcb:=kH hcb;replace hbo4:=kH hbo4
     clear hW4 hb4 e_0 e_1 e_2 hbb3 X hw hbo
     obtain⟨c4_0,c4_1,c4_2⟩:=C4.box3;have hsC4:=bLt c4_0;obtain⟨x4_0,x4_1,x4_2⟩:=X4.box3;have hsX4:=bLt x4_0
     by_cases hcn2:cnm=name
     ·have dn1:(cnm.toList == name.toList)=true:=by rw[beq_iff_eq,toList_eq];exact hcn2
      have dn:(cnm.toList != name.toList)=false:=by rw[bne,dn1];rfl
      have hy:=hyes.out hcn2
      replace hy:=kH hy;replace hcn2:=kH hcn2
      clear hnext hyes
      have i640:I64 0:=⟨by decide,by decide⟩
      go_upto_region 18 with fail
      obtain⟨w5,hW5⟩ : ∃W,W=w4.alloc (.cells #[.int .i64 0,.string tnm,.int .i64 (pr:Int)] 107):=⟨_,rfl⟩
      rw[<- hW5]
      have hb5:Below w4.heap.size w4 w5:=by rw[hW5];go_grown
      have O5:OwnT w4.heap.size w5 (.slice (some ⟨w4.heap.size,0,none⟩) 1 1) (ownL tnm pr 0):=by
       rw[hW5]
       exact⟨own_new w4 #[.int .i64 0,.string tnm,.int .i64 (pr:Int)] 107 3 1 rfl (by decide) w4.heap.size (Nat.le_refl _),fun x hx=>by
        simp only[ownL,List.range_zero,List.map_nil,List.mem_singleton]at hx
        subst hx
        exact⟨i640,hsT.out,by dsimp only[I64];omega⟩⟩
      have X5:=X4.below hb5
      have hob5:=hb5.size
      have hwo:=hw4.size
      have hoz4:w4.heap.size<=w4.heap.size:=Nat.le_refl _
      generalize (Value.slice (some ⟨w4.heap.size,0,none⟩) 1 1)=ov0 at *
      replace O5:=kH O5;replace hb5:=kH hb5;replace X4:=kH X4;replace C4:=kH C4;replace hw4:=kH hw4
      clear hW5 c4_0 c4_1 c4_2 hsC4 x4_0 x4_1 x4_2 hsX4 hbo4 dn dn1
      obtain⟨x5_0,x5_1,x5_2⟩:=X5.box3;have hsX5:=bLt x5_0
      go_wp2_with fail
      go_loopw [13,60] (fun ov jj wp=>∃j:Nat,j<=pr/\jj=.int .i64 j/\Hid (OwnT w4.heap.size wp ov (ownL tnm pr j))/\Hid (Below w4.heap.size w4 wp)) (fun _ jj _=>pr-(intOf jj).toNat)
      case atStart=>exact⟨0,by omega,rfl,O5,hb5⟩
      case round=>
       clear O5 hb5 hob5 x5_0 x5_1 x5_2 hsX5 X5
       obtain⟨j,hj,rfl,O,hb⟩:=hrel
       have hzo:=hb.out.size
       by_cases hlt4:j<pr
       ·have hst:=ownL_succ tnm pr j
        have hln:=ownL_len tnm pr j
        obtain⟨va,vc,rfl⟩:=O.out.form
        rw[hln]at O ⊢
        have hown:=O.out.1
        rw[hln]at hown
        have se:StrOk (⟨#[]⟩ : ByteArray):=strok (by decide)
        generalize ownL tnm pr j=Pi at *
        have hwf:GTyItem.wf ⟨(j:Int),⟨#[]⟩,0⟩:=⟨by dsimp only[I64];omega,se,i640⟩
        replace hst:=kH hst;replace hown:=kH hown;replace hln:=kH hln.symm;replace hwf:=kH hwf
        go_wp2_with ((at_builtin;refine wpList_append_lies _ rfl _ _ _ rfl (w4.heap.size) 107 iI _ 3 32 Tryz.underlying31 II.out II0.out II1.out II2.out rfl (by omega) (.slice va (j+1) vc) (j+1) (rowsOf tyRow Pi) rfl (own_below hown.out (by go_grown)) ⟨wr.heap.size,0,none⟩ 1 1 [.int .i64 (j:Int),.string ⟨#[]⟩,.int .i64 0] rfl rfl (World.news_of_block (cs:=#[.int .i64 (j:Int),.string ⟨#[]⟩,.int .i64 0]) (t:=107) (fr:=(0,0)) (heap_alloc_new' _ _ _ (by simp))) (by intro u hu;simp at hu;repeat' first|(subst hu;rfl)|rcases hu with hu|hu) (by omega) (by unfold maxLen;omega) (by omega) (by simp;omega) _ rfl ?_;intro g2 cap2 w6 hown6 hgrow hat hlt5))
        have hbA:Below wr.heap.size wr (wr.alloc (.cells #[.int .i64 (j:Int),.string ⟨#[]⟩,.int .i64 0] 107)):=by go_grown
        have y1:=ownT_app (Mi:=[⟨(j:Int),⟨#[]⟩,0⟩]) (O.out.below hbA) hln.out rfl (fun y hy=>by simp only[List.mem_singleton]at hy;subst hy;exact hwf.out) (by rw[rowsOf_one];rfl) hown6
        have y2:=below_grown2 (wr:=wr) (base:=w4.heap.size) hgrow hbA hb.out hzo hown.out
        go_roundw
        case rel=>exact⟨j+1,by omega,by go_num,kH (by rw[hst.out];exact y1),kH y2⟩
        case measure=>simp[intOf];omega
       ·obtain rfl:j=pr:=by omega
        have O':=O.out
        rw[ownL_full tnm j hpr2]at O'
        have hs1:=(O'.sl flatTyItem).mono GTyItem.good hwo
        have X:=X4.out.below hb.out
        have C:=C4.out.below hb.out
        obtain⟨va,vn,vc,rfl⟩ : ∃a n c,u13=.slice a n c:=by obtain⟨a,c,h⟩:=O.out.form;exact⟨_,_,_,h⟩
        have hfin:=fun W (hW:Below wr.heap.size wr W) v2 (h2:Stay wp w W v2 (if chas=true then c.arg.items else [])) (h3:∃a n c,v2=Value.slice a n c)=>hy.out W _ v2 ((hw4.out.trans (hb.out.mono hwo)).trans (hW.mono (by omega))) (hs1.below GTyItem.good hW) h2 h3
        replace hfin:=kH hfin
        clear O O' hs1
        obtain⟨x_0,x_1,x_2⟩:=X.box3;have hsX:=bLt x_0;obtain⟨c_0,c_1,c_2⟩:=C.box3;have hsC:=bLt c_0
        cases chas
        ·go_upto_region 24 with fail
         (refine wp_region_ext_lit (by kernel_rfl) (by kernel_rfl) ?_;(repeat (any_goals (first|go_big_quiet_step (fail)|quiet_step (fail)|(refine wpQuiet_step (fun K hK=>?_);go_simp;split<;>(refine hK _ ?_;clear hK K)))));all_goals (refine wpQuiet_nil ?_;rintro wq ⟨⟨_,hbq⟩,rfl⟩))
         go_wp2_with fail
         go_returns
         exact hfin.out _ hbq _ (.inl Sl.nil) ⟨_,_,_,rfl⟩
        ·go_upto_region 25 with fail
         (refine wp_region_ext_lit (by kernel_rfl) (by kernel_rfl) ?_;(repeat (any_goals (first|go_big_quiet_step (fail)|quiet_step (fail)|(refine wpQuiet_step (fun K hK=>?_);go_simp;split<;>(refine hK _ ?_;clear hK K)))));all_goals (refine wpQuiet_nil ?_;rintro wq ⟨⟨_,hbq⟩,rfl⟩))
         go_wp2_with fail
         go_returns
         exact hfin.out _ hbq _ (.inr hGK.out) ⟨_,_,_,rfl⟩
     ·have dn1:(cnm.toList == name.toList)=false:=by rw[beq_eq_false_iff_ne];exact fun e=>hcn2 ((toList_eq _ _).1 e)
      have dn:(cnm.toList != name.toList)=true:=by rw[bne,dn1];rfl
      replace hcn2:=kH hcn2
      go_wp2_with fail
      go_roundw
      case rel=>exact⟨k+1,by omega,by go_num,kH (hnext.out hcn2.out),hw4,hbo4,X4⟩
      case measure=>simp[intOf];omega
    ·obtain rfl:k=cn:=by omega
     have hsk:=hskip.out (by have h:=hfk.out;rw[List.take_of_length_le (by have:=hcn.out;omega)]at h;exact h)
     replace hsk:=kH hsk
     go_wp2_with fail
     go_roundw
     case rel=>exact⟨i+1,by omega,by go_num,hsk,hw⟩
     case measure=>simp[intOf];omega
  ·obtain rfl:i=tn:=by omega
   have hf:=hfi.out
   rw[List.take_of_length_le (by have:=hTl.out;omega)]at hf
   have hm:=hmiss.out hf wr hw
   replace hm:=kH hm
   go_wp2_with fail
   go_returns
   exact hm.out
theorem conOf_c (wp:World) (T:List GType) (hT:TysOk T) (tv:Value) (w:World) (hM:Sl GType.R 3 0 wp tv T) (hp3:Below wp.heap.size wp w) (name:ByteArray):Calls Tryz.prog 119 #[tv,.string name] w (CoPost wp (conT T name) w):=by
 by_cases hA:name=nmTrue\/name=nmFalse
 ·exact conOfA_c wp T tv w name hA
 by_cases hB:name=nmNil\/name=nmCons
 ·exact conOfB_c wp T tv w name hA hB
 exact conOfC_c wp T hT tv w hM hp3 name hA hB
end Go.Proofs.YtkikkfjmggobpaaGreat
namespace Go.Proofs.YtkikkfjmggobpaaGreat
open Go.RowKit Go.Lib
set_option linter.unusedVariables false
set_option linter.unusedSimpArgs false
theorem run_copy_sz {P:Program} (w:World) (dT sT ty elem:TypeId) (b o dLen dCap:Nat) (a:Addr) (sLen sCap:Nat) (cs:List Value) (size m:Nat)
  (hu:P.underlying dT=some (.slice elem)) (hs:(P.info? elem).map (·.size)=some size) (hm:m=Nat.min sLen dLen) (hn:cs.length=m*size)
  (hsrc:∀j v,cs[j]? = some v->w.cell? (a.add j)=some v) (hc:∀j,j<cs.length->(w.cell? ⟨b,o+j,none⟩).isSome=true) (hf:∀j,j<cs.length->w.frozen? ⟨b,o+j,none⟩=false) (h1:∀v∈cs,v.oneCell' = true) :
  (Builtin.copy_ #[dT,sT] ty #[.slice (some ⟨b,o,none⟩) dLen dCap,.slice (some a) sLen sCap]).run P w=.ok (goInt m) (w.setCells b o cs):=by
 have hl:=run_loadCells_list (P:=P) w a cs hsrc
 have hst:=run_storeCells_cells (P:=P) b o cs 0 w (by simpa using hc) (by simpa using hf) h1
 subst hm
 cases hq:P.info? elem with
 |none=>simp[hq]at hs
 |some i=>
  have hi:i.size=size:=by simpa [hq] using hs
  simp[Builtin.copy_,run_underlying hu,Builtin.lenOf,Builtin.firstCells,sizeOf,typeInfo,hq,hi,<- hn,hl,hst]
theorem wp_copy_runS {P:Program} (w:World) {o:Oper} {a:Act} {K:Act->World->Prop} {Q:Exit->Act->World->Prop} (d s:Operand) (t t' : TypeId)
  (ho:o.op=.call { callee:=.builtin .copy,args:=#[d,s],argTypes:=#[t,t'] }) (v u:Value) (hd:a.eval d=v) (hs:a.eval s=u) {v' : Value} {w' : World}
  (hr:(Builtin.copy_ #[t,t'] o.type #[v,u]).run P w=.ok v' w') (h:K (a.put o.dst v') w'):o.wp P a w K Q:=by
 unfold Oper.wp execOp
 simp only[ho,resolve,invoke,builtin,Sem.run_bind,Sem.run_pure,Result.andThen_ok,List.map_toArray,List.map_cons,List.map_nil,hd,hs,hr]
 exact h
theorem wpList_copy_runS {P:Program} (w:World) {ops:Array Oper} {rest:List Oper} {o:Oper} {a:Act} {Q:Exit->Act->World->Prop} (hgd:o.guard=none) (d s:Operand) (t t' : TypeId)
  (ho:o.op=.call { callee:=.builtin .copy,args:=#[d,s],argTypes:=#[t,t'] }) (v u:Value) (hd:a.eval d=v) (hs:a.eval s=u) {v' : Value} {w' : World}
  (hr:(Builtin.copy_ #[t,t'] o.type #[v,u]).run P w=.ok v' w') (h:wpList P ops Q rest (a.put o.dst v') w'):wpList P ops Q (o :: rest) a w:=
 wpList_plain hgd fun _ hK=>wp_copy_runS w d s t t' ho v u hd hs hr (hK _ _ h)
theorem step_copy_runS {P:Program} {ops:Array Oper} {o:Oper} {a:Act} {w:World} {K:Act->World->Prop} {Q:Exit->Act->World->Prop} {E:Prop}
  (hg:o.guard=none) (d x:Operand) (dT sT:TypeId) (hop:o.op=Op.call { callee:=Callee.builtin Builtin.copy,args:=#[d,x],argTypes:=#[dT,sT] })
  (v u:Value) (hd:a.eval d=v) (hx:a.eval x=u) {v' : Value} {w' : World} (hr:(Builtin.copy_ #[dT,sT] o.type #[v,u]).run P w=.ok v' w') (hK:K (a.put o.dst v') w') :
  if Region.wanted o (yielded ops a.tmps)=true then Oper.wp P o a w K Q else E:=by
 have hw:Region.wanted o (yielded ops a.tmps)=true:=by simp[Region.wanted,hg]
 rw[if_pos hw]
 exact wp_copy_runS w d x dT sT hop v u hd hx hr hK
theorem isSome_setCellsS (b:Nat) (vs:List Value) (o:Nat) (w:World) (h:∀j,j<vs.length->(w.cell? ⟨b,o+j,none⟩).isSome=true) (k:Nat) (hk:(w.cell? ⟨b,k,none⟩).isSome=true):((w.setCells b o vs).cell? ⟨b,k,none⟩).isSome=true:=by
 by_cases hin:o<=k/\k<o+vs.length
 ·have:=World.cell?_setCells_in b vs o w h (k-o) (by omega)
  rw[show o+(k-o)=k by omega]at this
  rw[this];rfl
 ·rw[World.cell?_setCells_out b vs o w ⟨b,k,none⟩ (fun _ _=>by show k<o\/o+vs.length<=k;omega)]
  exact hk
theorem block_lt_cell {w:World} {b o:Nat} {v:Value} (h:w.cell? ⟨b,o,none⟩=some v):b<w.heap.size:=World.block_lt_of_cell? _ _ h
set_option maxHeartbeats 4000000 in
set_option maxRecDepth 100000 in
theorem insert_shift (b off n c i vb vc:Nat) (cs vs:List Value) (w:World) (hi:i<n) (hroom:n+1<=c) (hc63:c<=9223372036854775807) (hvb:vb≠b)
  (hcl:cs.length=n*2) (hvl:vs.length=2)
  (hcs:∀j v,cs[j]? = some v->w.cell? ⟨b,off+j,none⟩=some v) (hsp:∀j,j<(n+1)*2->(w.cell? ⟨b,off+j,none⟩).isSome=true) (hfz:∀j,j<(n+1)*2->w.frozen? ⟨b,off+j,none⟩=false)
  (hvs:∀j v,vs[j]? = some v->w.cell? ⟨vb,j,none⟩=some v) (h1c:∀v∈cs,v.oneCell' = true) (h1v:∀v∈vs,v.oneCell' = true)
  (tA tB:TypeId) (kA kB:Nat) (hsa:w.shape? vb=some (tA,kA)) (hsb:w.shape? b=some (tB,kB)) (hkB:kB≠0) (hfa:w.frozen? ⟨vb,0,none⟩=false) (hfe:w.frozen? ⟨vb,kA,none⟩=false) :
  Calls Tryz.prog 174 #[.slice (some ⟨b,off,none⟩) n c,.int .i64 i,.slice (some ⟨vb,0,none⟩) 1 vc] w fun e w'=>
   e=.returned (.slice (some ⟨b,off,none⟩) (n+1) c)/\w' = (w.drew.setCells b (off+(i+1)*2) (cs.drop (i*2))).setCells b (off+i*2) vs:=by
 obtain⟨i0,hi0,hz0,hzs,hzb⟩:=info_parts info_SubB
 have hsz:(Tryz.prog.info? 119).map (·.size)=some 2:=by rw[hi0];simp[hzs]
 have hso:∀w,(Go.sizeOf 119).run Tryz.prog w=.ok 2 w:=fun w=>by simp[sizeOf,typeInfo,hi0,hzs]
 have hz2 : ¬ ((i:Int)=(n:Int)):=by omega
 have hov:∀lb cb,(callFunc 184 #[.slice (some ⟨vb,0,none⟩) 1 vc,.slice (some ⟨b,off+(i+1)*2,none⟩) lb cb]).run Tryz.prog w=.ok (.value (.bool false)) w:=fun lb cb=>by
  rw[run_callFunc_extern Tryz.func184 (by kernel_rfl) (by kernel_rfl) (by kernel_rfl) (e:=Extern.SlicesOverlaps.overlaps #[59,59] #[4]) (by kernel_rfl),
   Lib.run_overlaps_apart w 59 4 119 Tryz.underlying59 2 hso ⟨vb,0,none⟩ ⟨b,off+(i+1)*2,none⟩ 1 vc lb cb hvb tA tB kA kB hsa hsb hkB hfa hfe]
  rfl
 have hdl:(cs.drop (i*2)).length=(n-i)*2:=by rw[List.length_drop,hcl];omega
 have hw1:IntKind.i64.wrap ((i:Int)+1)=(i:Int)+1:=by rw[IntKind.wrap_i64];omega
 have hb1:(0:Int)<=(i:Int)+1:=by omega
 have hb5:(i:Int)+1<=(n:Int)+1:=by omega
 have hb6:(n:Int)+1<=(c:Int):=by omega
 have hin:i<=n:=by omega
 have htn:((i:Int)+1).toNat=i+1:=by omega
 have hb2 : ¬ (c=i+1):=by omega
 have hb3:(i:Int)<=(n:Int)+1:=by omega
 have hb4 : ¬ (c=i):=by omega
 have hcp1:∀ty dc sc,(Builtin.copy_ #[59,59] ty #[.slice (some ⟨b,off+(i+1)*2,none⟩) (n-i) dc,.slice (some ⟨b,off+i*2,none⟩) (n+1-i) sc]).run Tryz.prog w.drew=.ok (goInt ((n-i:Nat):Int)) (w.drew.setCells b (off+(i+1)*2) (cs.drop (i*2))):=fun ty dc sc=>
  run_copy_sz w.drew _ _ ty 119 b (off+(i+1)*2) (n-i) dc ⟨b,off+i*2,none⟩ (n+1-i) sc (cs.drop (i*2)) 2 (n-i) Tryz.underlying59 hsz (by simp only[Nat.min_def];split<;>omega) hdl
   (fun j v hj=>by rw[Addr.add_lit,Nat.add_assoc];exact hcs (i*2+j) v (by rwa [List.getElem?_drop]at hj))
   (fun j hj=>by rw[Nat.add_assoc];exact hsp _ (by omega)) (fun j hj=>by rw[Nat.add_assoc];exact hfz _ (by omega)) (fun v hv=>h1c v (List.mem_of_mem_drop hv))
 obtain⟨W1,hW1⟩ : ∃W1,W1=w.drew.setCells b (off+(i+1)*2) (cs.drop (i*2)):=⟨_,rfl⟩
 have hsp1:∀k,k<(n+1)*2->(W1.cell? ⟨b,off+k,none⟩).isSome=true:=fun k hk=>by
  rw[hW1]
  exact isSome_setCellsS b _ _ _ (fun j hj=>by rw[Nat.add_assoc];exact hsp _ (by omega)) _ (hsp k hk)
 have hcp2:∀ (W:World),(∀x,W.cell? x=W1.cell? x)->(∀x,W.frozen? x=W1.frozen? x)->∀ty dc,(Builtin.copy_ #[59,59] ty #[.slice (some ⟨b,off+i*2,none⟩) (n+1-i) dc,.slice (some ⟨vb,0,none⟩) 1 vc]).run Tryz.prog W=.ok (goInt ((1:Nat):Int)) (W.setCells b (off+i*2) vs):=fun W hWc hWf ty dc=>
  run_copy_sz W _ _ ty 119 b (off+i*2) (n+1-i) dc ⟨vb,0,none⟩ 1 vc vs 2 1 Tryz.underlying59 hsz (by simp only[Nat.min_def];split<;>omega) hvl
   (fun j v hj=>by
    rw[Addr.add_lit,hWc,hW1,World.cell?_setCells_out b _ _ _ _ (fun h _=>absurd h hvb),Nat.zero_add]
    exact hvs j v hj)
   (fun j hj=>by rw[hWc,Nat.add_assoc];exact hsp1 _ (by omega)) (fun j hj=>by rw[hWf,hW1,World.frozen?_setCells,Nat.add_assoc];exact hfz _ (by omega)) h1v
 rw[<- hW1]at hcp1
 clear hsz hso hi0 hz0 hzs hzb hdl
 go_enter Tryz.func174,Tryz.ntmps174
 go_wp2_with (simp only[hov])
 go_region_law (refine step_copy_runS rfl _ _ 59 59 rfl _ _ (by simp[Act.eval,Act.put]) (by simp[Act.eval,Act.put]) (hcp1 _ _ _) ?_)
 go_wp2_with (at_builtin;refine wpList_copy_runS _ rfl _ _ 59 59 rfl _ _ rfl rfl (hcp2 _ (fun _=>rfl) (fun _=>rfl) _ _) ?_)
 go_returns
 first|exact⟨rfl,rfl⟩|exact⟨rfl,by rw[hW1]⟩
end Go.Proofs.YtkikkfjmggobpaaGreat
namespace Go.Proofs.YtkikkfjmggobpaaGreat
open Go.RowKit Go.Lib
set_option linter.unusedVariables false
set_option linter.unusedSimpArgs false
set_option maxHeartbeats 4000000 in
set_option maxRecDepth 100000 in
theorem insert_grow (b off n c i vb vc:Nat) (cs vs:List Value) (w:World) (hi:i<n) (hnc:n<=c) (hroom:c<n+1) (hbig:(n+1)*32<=140737488355328)
  (hcl:cs.length=n*2) (hvl:vs.length=2)
  (hcs:∀j v,cs[j]? = some v->w.cell? ⟨b,off+j,none⟩=some v)
  (hvs:∀j v,vs[j]? = some v->w.cell? ⟨vb,j,none⟩=some v) (h1c:∀v∈cs,v.oneCell' = true) (h1v:∀v∈vs,v.oneCell' = true) :
  Calls Tryz.prog 174 #[.slice (some ⟨b,off,none⟩) n c,.int .i64 i,.slice (some ⟨vb,0,none⟩) 1 vc] w fun e w'=>
   ∃ (G:Nat) (ROW:Array Value),n+1<=G/\G<=maxLen/\ROW.size=G*2/\ROW.toList.take (i*2)=cs.take (i*2)/\
   e=.returned (.slice (some ⟨w.heap.size,0,none⟩) (n+1) G)/\
   w' = (((w.alloc (.cells ROW 119)).drew.setCells w.heap.size (i*2) vs).drew).setCells w.heap.size ((i+1)*2) (cs.drop (i*2)):=by
 obtain⟨i0,hi0,hz0,hzs,hzb⟩:=info_parts info_SubB
 have hz2 : ¬ ((i:Int)=(n:Int)):=by omega
 have hz3:(c:Int)<(n:Int)+1:=by omega
 have hsz:(Tryz.prog.info? 119).map (·.size)=some 2:=by rw[hi0];simp[hzs]
 have hbw:b<w.heap.size:=block_lt_cell (hcs 0 _ (List.getElem?_eq_getElem (by omega)))
 have hvw:vb<w.heap.size:=block_lt_cell (hvs 0 _ (List.getElem?_eq_getElem (by omega)))
 have hkk:(n:Int)+1-(i:Int)=((n+1-i:Nat):Int):=by omega
 have hik:i+(n+1-i)=n+1:=by omega
 have hold:(Builtin.firstCells i0.size i (.slice (some ⟨b,off,none⟩) i c)).run Tryz.prog w.drew=.ok (cs.take (i*2)).toArray w.drew:=by
  rw[hzs]
  exact run_firstCells_some w.drew 2 i ⟨b,off,none⟩ i c (cs.take (i*2)) (by rw[List.length_take];omega) (fun j v hj=>by
   rw[Addr.add_lit]
   rw[List.getElem?_take]at hj
   split at hj
   ·exact hcs j v hj
   ·cases hj)
 have hrz:∀ty,(Builtin.append_ #[59,3] ty #[.slice (some ⟨b,off,none⟩) i c,.int .i64 ((n:Int)+1-(i:Int))]).run Tryz.prog w =
   .ok (.slice (some ⟨w.heap.size,0,none⟩) (n+1) (grownCap w (n+1) c 119)) (w.drew.alloc (.cells ((cs.take (i*2)).toArray++Builtin.zeroCells (Value.agg #[.int .i64 0,.slice none 0 0]).cells (n+1-i)++Builtin.zeroCells (Value.agg #[.int .i64 0,.slice none 0 0]).cells (grownCap w (n+1) c 119-(n+1))) 119)):=fun ty=>by
  have h:=Lib.run_append_grow_zeros w 59 3 ty 119 i0 _ .i64 .i64 Tryz.underlying59 Tryz.underlying3 hi0 hz0 (some ⟨b,off,none⟩) i c (cs.take (i*2)) hold (n+1-i) (by omega) (by omega) (by omega) (by omega) (by rw[hzb];omega) (by rw[hzb,hik];exact growslice_fits hroom hbig)
  rw[hik]at h
  rw[hkk]
  exact h
 have hGn:n+1<=grownCap w (n+1) c 119:=grownCap_ge w _ _ _
 have hGm:grownCap w (n+1) c 119<=maxLen:=grownCap_le_maxLen w (n+1) c 119 (by unfold maxLen;omega)
 obtain⟨G,hG⟩ : ∃G,G=grownCap w (n+1) c 119:=⟨_,rfl⟩
 rw[<- hG]at hrz hGn hGm
 obtain⟨ROW,hROW⟩ : ∃ROW:Array Value,ROW=(cs.take (i*2)).toArray++Builtin.zeroCells (Value.agg #[.int .i64 0,.slice none 0 0]).cells (n+1-i)++Builtin.zeroCells (Value.agg #[.int .i64 0,.slice none 0 0]).cells (G-(n+1)):=⟨_,rfl⟩
 rw[<- hROW]at hrz
 have hRs:ROW.size=G*2:=by
  rw[hROW]
  simp[Builtin.zeroCells,Value.cells,hcl]
  omega
 have hRt:ROW.toList.take (i*2)=cs.take (i*2):=by
  rw[hROW]
  simp only[Array.toList_append,List.append_assoc]
  rw[List.take_append_of_le_length (by rw[List.length_take,hcl];omega),List.take_of_length_le (by rw[List.length_take];omega)]
 have hRl:(n+1)*2<=ROW.size:=by omega
 obtain⟨W1,hW1⟩ : ∃W1,W1=w.drew.alloc (.cells ROW 119):=⟨_,rfl⟩
 rw[<- hW1]at hrz
 have hN:∀j,j<(n+1)*2->(W1.cell? ⟨w.heap.size,j,none⟩).isSome=true:=fun j hj=>by
  rw[hW1,World.cell?_alloc_at (w:=w.drew) ROW _ w.heap.size j rfl,Array.getElem?_eq_getElem (by omega)];rfl
 have hNf:∀j,W1.frozen? ⟨w.heap.size,j,none⟩=false:=fun j=>by rw[hW1];exact World.frozen?_alloc_at (w:=w.drew) ROW _ w.heap.size j rfl
 have hOb:∀j v,w.cell? ⟨b,j,none⟩=some v->W1.cell? ⟨b,j,none⟩=some v:=fun j v h=>by rw[hW1,World.cell?_alloc_past (w:=w.drew) _ b j hbw];exact h
 have hOv:∀j v,w.cell? ⟨vb,j,none⟩=some v->W1.cell? ⟨vb,j,none⟩=some v:=fun j v h=>by rw[hW1,World.cell?_alloc_past (w:=w.drew) _ vb j hvw];exact h
 have hcpA:∀ (W:World),(∀x,W.cell? x=W1.cell? x)->(∀x,W.frozen? x=W1.frozen? x)->∀ty dc,(Builtin.copy_ #[59,59] ty #[.slice (some ⟨w.heap.size,i*2,none⟩) (n+1-i) dc,.slice (some ⟨vb,0,none⟩) 1 vc]).run Tryz.prog W=.ok (goInt ((1:Nat):Int)) (W.setCells w.heap.size (i*2) vs):=fun W hWc hWf ty dc=>
  run_copy_sz W _ _ ty 119 w.heap.size (i*2) (n+1-i) dc ⟨vb,0,none⟩ 1 vc vs 2 1 Tryz.underlying59 hsz (by simp only[Nat.min_def];split<;>omega) hvl
   (fun j v hj=>by rw[Addr.add_lit,hWc,Nat.zero_add];exact hOv _ v (hvs j v hj))
   (fun j hj=>by rw[hWc];exact hN _ (by omega)) (fun j hj=>by rw[hWf];exact hNf _) h1v
 have hG63:G<=9223372036854775807:=by unfold maxLen at hGm;omega
 have hGi : ¬ (G=i):=by omega
 have hGim : ¬ (G=i+1):=by omega
 have hci : ¬ (c=i):=by omega
 have hbN:b≠w.heap.size:=by omega
 have hdl:(cs.drop (i*2)).length=(n-i)*2:=by rw[List.length_drop,hcl];omega
 have hcpB:∀ (W:World),(∀x,W.cell? x=(W1.setCells w.heap.size (i*2) vs).cell? x)->(∀x,W.frozen? x=(W1.setCells w.heap.size (i*2) vs).frozen? x)->∀ty dc sc,(Builtin.copy_ #[59,59] ty #[.slice (some ⟨w.heap.size,(i+1)*2,none⟩) (n-i) dc,.slice (some ⟨b,off+i*2,none⟩) (n-i) sc]).run Tryz.prog W=.ok (goInt ((n-i:Nat):Int)) (W.setCells w.heap.size ((i+1)*2) (cs.drop (i*2))):=fun W hWc hWf ty dc sc=>
  run_copy_sz W _ _ ty 119 w.heap.size ((i+1)*2) (n-i) dc ⟨b,off+i*2,none⟩ (n-i) sc (cs.drop (i*2)) 2 (n-i) Tryz.underlying59 hsz (by simp only[Nat.min_def];split<;>omega) hdl
   (fun j v hj=>by
    rw[Addr.add_lit,hWc,World.cell?_setCells_out _ _ _ _ _ (fun h _=>absurd h hbN),Nat.add_assoc]
    exact hOb _ v (hcs (i*2+j) v (by rwa [List.getElem?_drop]at hj)))
   (fun j hj=>by rw[hWc];exact isSome_setCellsS _ _ _ _ (fun t ht=>hN _ (by omega)) _ (hN _ (by omega)))
   (fun j hj=>by rw[hWf,World.frozen?_setCells];exact hNf _) (fun v hv=>h1c v (List.mem_of_mem_drop hv))
 subst hW1
 have hE1:∀x,((w.alloc (.cells ROW 119)).drew).cell? x=(w.drew.alloc (.cells ROW 119)).cell? x:=fun x=>rfl
 have hE2:∀x,((w.alloc (.cells ROW 119)).drew).frozen? x=(w.drew.alloc (.cells ROW 119)).frozen? x:=fun x=>rfl
 have hF1:∀x,(((w.alloc (.cells ROW 119)).drew.setCells w.heap.size (i*2) vs).drew).cell? x=((w.drew.alloc (.cells ROW 119)).setCells w.heap.size (i*2) vs).cell? x:=fun x=>rfl
 have hF2:∀x,(((w.alloc (.cells ROW 119)).drew.setCells w.heap.size (i*2) vs).drew).frozen? x=((w.drew.alloc (.cells ROW 119)).setCells w.heap.size (i*2) vs).frozen? x:=fun x=>rfl
 have hw1:IntKind.i64.wrap ((i:Int)+1)=(i:Int)+1:=by rw[IntKind.wrap_i64];omega
 have hb1:(0:Int)<=(i:Int)+1:=by omega
 have hb5:(i:Int)+1<=(n:Int)+1:=by omega
 have hb6:(n:Int)+1<=(G:Int):=by omega
 have hin:i<=n:=by omega
 have htn:((i:Int)+1).toNat=i+1:=by omega
 have hb3:(i:Int)<=(n:Int):=by omega
 clear hkk hik hold hROW hG hRl hsz hi0 hz0 hzs hzb
 go_enter Tryz.func174,Tryz.ntmps174
 go_wp2_with (first
  |(at_builtin;refine Lib.wpList_append_run _ rfl _ _ _ _ rfl _ _ rfl rfl _ _ (hrz _) ?_)
  |(at_builtin;refine wpList_copy_runS _ rfl _ _ 59 59 rfl _ _ rfl rfl (hcpA _ hE1 hE2 _ _) ?_)
  |(at_builtin;refine wpList_copy_runS _ rfl _ _ 59 59 rfl _ _ rfl rfl (hcpB _ (fun _=>rfl) (fun _=>rfl) _ _ _) ?_))
 go_region_law (refine step_copy_runS rfl _ _ 59 59 rfl (.slice (some ⟨w.heap.size,(i+1)*2,none⟩) (n-i) (G-(i+1))) (.slice (some ⟨b,off+i*2,none⟩) (n-i) (c-i)) (by simp[Act.eval,Act.put]) (by simp[Act.eval,Act.put]) (hcpB _ hF1 hF2 3 (G-(i+1)) (c-i)) ?_)
 go_wp2
 go_returns
 exact⟨G,ROW,hGn,hGm,hRs,hRt,rfl,rfl⟩
end Go.Proofs.YtkikkfjmggobpaaGreat
namespace Go.Proofs.YtkikkfjmggobpaaGreat
open Go.RowKit Go.Lib
set_option linter.unusedVariables false
set_option linter.unusedSimpArgs false
theorem setCells_store (g:Nat):∀ (vs:List Value) (o:Nat) (w:World),w.setCells g o vs=storeRow w g o vs
 |[],_,_=>rfl
 |v :: r,o,w=>by rw[World.setCells,storeRow,setCells_store g r]
theorem own_more {w:World} {base:Nat} {e:TypeId} {size g n n' cap:Nat} {xs:List Value} (h:w.ownsRow base e size (.slice (some ⟨g,0,none⟩) n cap) n xs) (hn:n<=n') (hc:n'<=cap) :
  ∃ys,ys.take (n*size)=xs/\w.ownsRow base e size (.slice (some ⟨g,0,none⟩) n' cap) n' ys:=by
 rcases h.2 with⟨hv,_⟩|⟨g',cap',cur,hv,h1,h2,h3,h4,h5,h6⟩
 ·cases hv
 ·obtain⟨rfl,rfl⟩ : g=g'/\cap=cap':=by injection hv with e1 e2 e3;injection e1 with e1;injection e1 with e1;exact⟨e1,e3⟩
  have hnn:n*size<=n' * size:=Nat.mul_le_mul_right _ hn
  have hcc:n' * size<=cap*size:=Nat.mul_le_mul_right _ hc
  have hlen:cur.toList.length=cap*size:=by simp[h5]
  refine⟨cur.toList.take (n' * size),by rw[List.take_take,Nat.min_eq_left hnn];exact h6,by rw[List.length_take];omega,.inr ⟨g,cap,cur,rfl,h1,h2,hc,h4,h5,rfl⟩⟩
theorem own_heap {w:World} {base:Nat} {e:TypeId} {size g n cap:Nat} {xs:List Value} (h:w.ownsRow base e size (.slice (some ⟨g,0,none⟩) n cap) n xs):∃cur,w.heap[g]? = some (.cells cur e (0,0))/\cur.size=cap*size:=by
 rcases h.2 with⟨hv,_⟩|⟨g',cap',cur,hv,h1,h2,h3,h4,h5,h6⟩
 ·cases hv
 ·obtain⟨rfl,rfl⟩ : g=g'/\cap=cap':=by injection hv with e1 e2 e3;injection e1 with e1;injection e1 with e1;exact⟨e1,e3⟩
  exact⟨cur,h2,h5⟩
theorem shape_heap {w:World} {g:Nat} {cur:Array Value} {e:TypeId} (h:w.heap[g]? = some (.cells cur e (0,0))):w.shape? g=some (e,cur.size):=by simp[World.shape?,h]
theorem frz_heap {w:World} {g:Nat} {cur:Array Value} {e:TypeId} (h:w.heap[g]? = some (.cells cur e (0,0))) (o:Nat):w.frozen? ⟨g,o,none⟩=false:=by simp[World.frozen?,h]
theorem own_drew {w:World} {base:Nat} {e:TypeId} {size:Nat} {v:Value} {n:Nat} {xs:List Value} (h:w.ownsRow base e size v n xs):w.drew.ownsRow base e size v n xs:=h
abbrev OwnS (B:Nat) (w:World) (v:Value) (ps:List SubV):Prop:=OwnF 119 2 subRow (fun p=>I64 p.k) B w v ps
theorem ins_list {A C S P:List Value} {i n:Nat} (hA:A.length=i*2) (hC:C.length=(n-i)*2) (hP:P.length=2) (hi:i<=n) (ys:List Value) (hy:ys.length=(n+1)*2) (hyt:ys.take (i*2)=A) :
  ((ys.take ((i+1)*2)++C++ys.drop ((i+1)*2+C.length)).take (i*2)++P++(ys.take ((i+1)*2)++C++ys.drop ((i+1)*2+C.length)).drop (i*2+P.length))=A++P++C:=by
 rw[List.drop_of_length_le (l:=ys) (by omega),List.append_nil,hP]
 have h1:(ys.take ((i+1)*2)).length=(i+1)*2:=by rw[List.length_take];omega
 rw[List.take_append_of_le_length (by omega),List.take_take,Nat.min_eq_left (by omega),hyt,show i*2+2=(ys.take ((i+1)*2)).length by omega,List.drop_left]
theorem ins_list2 {A C P:List Value} {i n:Nat} (hA:A.length=i*2) (hC:C.length=(n-i)*2) (hP:P.length=2) (hi:i<=n) (ys:List Value) (hy:ys.length=(n+1)*2) (hyt:ys.take (i*2)=A) :
  ((ys.take (i*2)++P++ys.drop (i*2+P.length)).take ((i+1)*2)++C++(ys.take (i*2)++P++ys.drop (i*2+P.length)).drop ((i+1)*2+C.length))=A++P++C:=by
 rw[hyt]
 have h2:(ys.drop (i*2+P.length)).length=(n-i)*2:=by rw[List.length_drop];omega
 rw[List.drop_of_length_le (l:=A++P++ys.drop (i*2+P.length)) (by rw[List.length_append,List.length_append];omega),List.append_nil,
  show(i+1)*2=(A++P).length by rw[List.length_append];omega,List.take_left]
def InsPost (B i:Nat) (ov:Value) (ps:List SubV) (p:SubV) (w:World) (e:Ending) (w' : World):Prop:=
 ∃g cap,e=.returned (.slice (some ⟨g,0,none⟩) (ps.length+1) cap)/\OwnS B w' (.slice (some ⟨g,0,none⟩) (ps.length+1) cap) (ps.take i++p :: ps.drop i)/\Kept (fun q=>some q=ov.ownBlock) w w'/\Below B w w'/\(ov.ownBlock=some g\/w.heap.size<=g)
theorem ins_own {B i g cap:Nat} {w' : World} {ps:List SubV} {p:SubV} (hi:i<=ps.length) (hps:∀x∈ps,I64 x.k) (hp:I64 p.k) (h:w'.ownsRow B 119 2 (.slice (some ⟨g,0,none⟩) (ps.length+1) cap) (ps.length+1) (rowsOf subRow (ps.take i)++subRow p++rowsOf subRow (ps.drop i))) :
  OwnS B w' (.slice (some ⟨g,0,none⟩) (ps.length+1) cap) (ps.take i++p :: ps.drop i):=by
 refine⟨?_,fun x hx=>?_⟩
 ·have e1:rowsOf subRow (ps.take i++p :: ps.drop i)=rowsOf subRow (ps.take i)++subRow p++rowsOf subRow (ps.drop i):=by
   rw[rowsOf_append,List.append_assoc];rfl
  have e2:(ps.take i++p :: ps.drop i).length=ps.length+1:=by simp;omega
  rw[e1,e2];exact h
 ·rcases List.mem_append.1 hx with h|h
  ·exact hps x (List.mem_of_mem_take h)
  ·rcases List.mem_cons.1 h with rfl|h
   ·exact hp
   ·exact hps x (List.mem_of_mem_drop h)
theorem own_cases {w:World} {base:Nat} {e:TypeId} {size n n' c:Nat} {a:Option Addr} {xs:List Value} (h:w.ownsRow base e size (.slice a n c) n' xs):(a=none->n' = 0)/\(∀b,a=some b->∃g,b=⟨g,0,none⟩)/\n'<=c:=by
 rcases h.2 with⟨hv,h0⟩|⟨g,cap,cur,hv,h1,h2,h3,h4⟩
 ·injection hv with e1 e2 e3;subst e1;exact⟨fun _=>h0,fun b hb=>(by cases hb),by omega⟩
 ·injection hv with e1 e2 e3;subst e1 e3;exact⟨fun h=>(by cases h),fun b hb=>⟨g,(Option.some.inj hb).symm⟩,h3⟩
set_option maxHeartbeats 4000000 in
set_option maxRecDepth 100000 in
theorem insert_end (ps:List SubV) (p:SubV) (hB:ps.length<=1000000000) (hp:I64 p.k) (B vb:Nat) (ov:Value) (w:World) (hO:OwnS B w ov ps) (hBw:B<=w.heap.size) (hV:w.heap[vb]? = some (.cells (subRow p).toArray 119 (0,0))) :
  Calls Tryz.prog 174 #[ov,.int .i64 ps.length,.slice (some ⟨vb,0,none⟩) 1 1] w (InsPost B ps.length ov ps p w):=by
 have hvs:Sl SubVR 2 0 w (.slice (some ⟨vb,0,none⟩) 1 1) [p]:=⟨_,1,rfl,Nat.le_refl _,by decide,fun _=>⟨vb,0,Nat.zero_le _,rfl,fun j x hx=>by
  match j,hx with
  |0,hx=>
   obtain rfl:=Option.some.inj hx
   exact⟨_,⟨rfl,hp⟩,fun k c hc=>by simp[World.cell?,hV];simpa using hc⟩
  |j+1,hx=>simp at hx⟩⟩
 have hpost:∀g cap W,W.ownsRow B 119 2 (.slice (some ⟨g,0,none⟩) (ps.length+1) cap) (ps.length+1) (rowsOf subRow ps++rowsOf subRow [p])->w.grownBy W ov.ownBlock->(ov.ownBlock=some g\/g=w.heap.size)->InsPost B ps.length ov ps p w (.returned (.slice (some ⟨g,0,none⟩) (ps.length+1) cap)) W:=fun g cap W h1 h2 h3=>by
  refine⟨g,cap,rfl,ins_own (Nat.le_refl _) hO.2 hp ?_,kept_grown h2,below_grown (Below.refl _ _) hBw hO.1 h2,by rcases h3 with h|h;exact .inl h;exact .inr (by omega)⟩
  rw[List.take_of_length_le (Nat.le_refl _),List.drop_of_length_le (Nat.le_refl _)]
  rw[rowsOf_one]at h1
  simpa [rowsOf] using h1
 generalize InsPost B ps.length ov ps p w=Q at *
 obtain⟨n,hn⟩ : ∃n,n=ps.length:=⟨_,rfl⟩
 have hown:=hO.1
 obtain⟨a,c,rfl⟩:=hO.form
 rw[<- hn]at hown hB hpost ⊢
 obtain⟨hz1,hz2,hz3⟩:=own_cases hown
 clear hO
 replace hn:=kH hn;replace hpost:=kH hpost;replace hown:=kH hown;replace hvs:=kH hvs
 obtain⟨iS,hi0,hz0,hz1,hz2⟩:=info_parts info_SubB;have IS:=kH hi0;have IS0:=kH hz0;have IS1:=kH hz1;have IS2:=kH hz2;clear hi0 hz0 hz1 hz2
 cases a with
 |none=>
  obtain rfl:n=0:=hz1 rfl
  go_enter Tryz.func174,Tryz.ntmps174
  go_wp2_with (at_builtin;refine wpList_append_ne _ flatSubV rfl _ _ _ rfl B 119 iS _ 32 Tryz.underlying59 IS.out IS0.out IS1.out IS2.out rfl _ 0 (rowsOf subRow ps) rfl hown.out 0 _ [p] rfl (by simp) hvs.out (by simp[maxLen]) (by simp) hBw _ rfl ?_;intro g2 cap2 w6 hown6 hgrow hat)
  exact hpost.out _ _ _ hown6 hgrow hat
 |some a=>
  obtain⟨g,rfl⟩:=hz2 a rfl
  clear hz1 hz2
  go_enter Tryz.func174,Tryz.ntmps174
  go_wp2_with (at_builtin;refine wpList_append_ne _ flatSubV rfl _ _ _ rfl B 119 iS _ 32 Tryz.underlying59 IS.out IS0.out IS1.out IS2.out rfl _ n (rowsOf subRow ps) rfl hown.out 0 _ [p] rfl (by simp) hvs.out (by simp[maxLen];omega) (by simp;omega) hBw _ rfl ?_;intro g2 cap2 w6 hown6 hgrow hat)
  all_goals exact hpost.out _ _ _ hown6 hgrow hat
theorem insert_c (ps:List SubV) (p:SubV) (i:Nat) (hi:i<=ps.length) (hB:ps.length<=1000000000) (hp:I64 p.k) (B vb:Nat) (ov:Value) (w:World) (hO:OwnS B w ov ps) (hBw:B<=w.heap.size) (hV:w.heap[vb]? = some (.cells (subRow p).toArray 119 (0,0))) (hne:ov.ownBlock≠some vb) :
  Calls Tryz.prog 174 #[ov,.int .i64 i,.slice (some ⟨vb,0,none⟩) 1 1] w (InsPost B i ov ps p w):=by
 rcases Nat.lt_or_ge i ps.length with hlt|hge
 rotate_left
 ·obtain rfl:i=ps.length:=by omega
  exact insert_end ps p hB hp B vb ov w hO hBw hV
 have hl:=flatSubV.length ps
 obtain⟨g,cap,rfl,q1,q2,q3,q4,q5,q6⟩:=own_cells hO.1 (by omega)
 have hgv:vb≠g:=fun e=>hne (by rw[e];rfl)
 have hvs:∀ (j:Nat) (v:Value),(subRow p)[j]? = some v->w.cell? ⟨vb,j,none⟩=some v:=fun j v hj=>by simp[World.cell?,hV];simpa using hj
 have hcs:∀ (j:Nat) (v:Value),(rowsOf subRow ps)[j]? = some v->w.cell? ⟨g,0+j,none⟩=some v:=fun j v hj=>q5 j v hj
 have hA:(rowsOf subRow (ps.take i)).length=i*2:=by rw[flatSubV.length,List.length_take];omega
 have hC:(rowsOf subRow (ps.drop i)).length=(ps.length-i)*2:=by rw[flatSubV.length,List.length_drop]
 have hsplit:rowsOf subRow ps=rowsOf subRow (ps.take i)++rowsOf subRow (ps.drop i):=by rw[<- rowsOf_append,List.take_append_drop]
 have hdrop:(rowsOf subRow ps).drop (i*2)=rowsOf subRow (ps.drop i):=by rw[hsplit,<- hA,List.drop_left]
 have htake:(rowsOf subRow ps).take (i*2)=rowsOf subRow (ps.take i):=by rw[hsplit,<- hA,List.take_left]
 by_cases hroom:ps.length+1<=cap
 ·obtain⟨ys,y1,y2⟩:=own_more hO.1 (Nat.le_succ _) hroom
  obtain⟨g',cap',hv',p1,p2,p3,p4,p5,p6⟩:=own_cells y2 (by omega)
  obtain⟨rfl,rfl⟩ : g=g'/\cap=cap':=by injection hv' with e1 e2 e3;injection e1 with e1;injection e1 with e1;exact⟨e1,e3⟩
  obtain⟨cur,c1,c2⟩:=own_heap hO.1
  have h:=insert_shift g 0 ps.length cap i vb 1 (rowsOf subRow ps) (subRow p) w hlt hroom q4 hgv hl rfl hcs
   (fun j hj=>by obtain⟨c,h1,_⟩:=p6 j hj;rw[h1];rfl) (fun j hj=>by obtain⟨c,_,h1⟩:=p6 j hj;exact h1) hvs (flatSubV.ones ps) (flatSubV.one p)
   119 119 _ _ (shape_heap hV) (shape_heap c1) (by omega) (frz_heap hV _) (frz_heap hV _)
  refine h.mono ?_
  rintro e w' ⟨rfl,rfl⟩
  rw[hdrop,Nat.zero_add,Nat.zero_add,setCells_store,setCells_store]
  have o1:=own_store_cells (off:=(i+1)*2) (r:=rowsOf subRow (ps.drop i)) (own_drew y2) (by omega)
  have o2:=own_store_cells (off:=i*2) (r:=subRow p) o1 (by show i*2+2<=_;omega)
  have hyl:=y2.1
  rw[ins_list (S:=[]) hA hC rfl hi ys (by omega) (by rw[<- htake,<- y1,List.take_take,Nat.min_eq_left (by omega)])]at o2
  refine⟨g,cap,rfl,ins_own hi hO.2 hp o2,?_,?_,.inl rfl⟩
  ·have k1:=kept_storeRow g (subRow p) (i*2) (kept_storeRow g (rowsOf subRow (ps.drop i)) ((i+1)*2) (Kept.refl (· = g) w.drew))
   exact fun k h1 h2=>k1 k h1 (fun e=>h2 (by rw[e];rfl))
  ·exact((Below.refl _ w).drew.trans ((below_storeRow g _ _ _).mono q1)).trans ((below_storeRow g _ _ _).mono q1)
 ·have h:=insert_grow g 0 ps.length cap i vb 1 (rowsOf subRow ps) (subRow p) w hlt q3 (by omega) (by omega) hl rfl hcs hvs (flatSubV.ones ps) (flatSubV.one p)
  refine h.mono ?_
  rintro e w' ⟨G,ROW,g1,g2,g3,g4,rfl,rfl⟩
  rw[hdrop,setCells_store,setCells_store]
  have hb1:Below B w (w.alloc (.cells ROW 119)):=by go_grown
  have hRl:ROW.toList.length=G*2:=by rw[<- g3];simp
  have o0:(w.alloc (.cells ROW 119)).ownsRow B 119 2 (.slice (some ⟨w.heap.size,0,none⟩) (ps.length+1) G) (ps.length+1) (ROW.toList.take ((ps.length+1)*2)):=
   ⟨by rw[List.length_take];omega,.inr ⟨w.heap.size,G,ROW,rfl,hBw,heap_alloc_new' _ _ _ rfl,g1,g2,g3,rfl⟩⟩
  have o1:=own_store_cells (off:=i*2) (r:=subRow p) (own_drew o0) (by show i*2+2<=_;omega)
  have o2:=own_store_cells (off:=(i+1)*2) (r:=rowsOf subRow (ps.drop i)) (own_drew o1) (by omega)
  have hyl:=o0.1
  rw[ins_list2 hA hC rfl hi _ hyl (by rw[<- htake,<- g4,List.take_take,Nat.min_eq_left (by omega)])]at o2
  refine⟨w.heap.size,G,rfl,ins_own hi hO.2 hp o2,?_,?_,.inr (Nat.le_refl _)⟩
  ·have k0:Kept (· = w.heap.size) w (w.alloc (.cells ROW 119)).drew:=fun k h1 h2=>Below.heap_alloc w _ k h1
   have k1:Kept (· = w.heap.size) w (storeRow (w.alloc (.cells ROW 119)).drew w.heap.size (i*2) (subRow p)).drew:=kept_storeRow w.heap.size (subRow p) (i*2) k0
   have k2:=kept_storeRow w.heap.size (rowsOf subRow (ps.drop i)) ((i+1)*2) k1
   exact fun k h1 h2=>k2 k h1 (by omega)
  ·exact(hb1.drew.trans ((below_storeRow w.heap.size _ _ _).mono hBw)).drew.trans ((below_storeRow w.heap.size _ _ _).mono hBw)
def seenX (s:List Int) (x:GTyItem):List Int:=if x.name.toList.isEmpty=true/\x.var ∉ s then s ++ [x.var] else s
def seenL (l:List GTyItem):List Int:=l.foldl seenX []
def canX (s:List Int) (x:GTyItem):GTyItem:=if x.name.toList.isEmpty=true then ⟨((s.idxOf x.var:Nat):Int),x.name,x.arity⟩ else x
def canGo (s:List Int):List GTyItem->List GTyItem
 |[]=>[]
 |x :: l=>canX (seenX s x) x :: canGo (seenX s x) l
def canL (l:List GTyItem):List GTyItem:=canGo [] l
theorem canGo_snoc:∀ (s:List Int) (l:List GTyItem) (x:GTyItem),canGo s (l ++ [x])=canGo s l ++ [canX (seenX (l.foldl seenX s) x) x]
 |s,[],x=>rfl
 |s,y :: l,x=>by rw[List.cons_append,canGo,canGo,canGo_snoc,List.cons_append];rfl
theorem canL_snoc (l:List GTyItem) (x:GTyItem):canL (l ++ [x])=canL l ++ [canX (seenX (seenL l) x) x]:=canGo_snoc [] l x
theorem seenL_snoc (l:List GTyItem) (x:GTyItem):seenL (l ++ [x])=seenX (seenL l) x:=by unfold seenL;rw[List.foldl_append];rfl
theorem canGo_len:∀ (s:List Int) (l:List GTyItem),(canGo s l).length=l.length
 |s,[]=>rfl
 |s,y :: l=>by rw[canGo,List.length_cons,canGo_len,List.length_cons]
theorem canL_len (l:List GTyItem):(canL l).length=l.length:=canGo_len [] l
theorem seenX_len (s:List Int) (x:GTyItem):(seenX s x).length<=s.length+1:=by
 unfold seenX
 split
 ·rw[List.length_append];simp
 ·omega
theorem foldSeen_len:∀ (l:List GTyItem) (s:List Int),(l.foldl seenX s).length<=s.length+l.length
 |[],s=>by simp
 |x :: l,s=>by have:=foldSeen_len l (seenX s x);have:=seenX_len s x;rw[List.foldl_cons,List.length_cons];omega
theorem seenL_len (l:List GTyItem):(seenL l).length<=l.length:=by have:=foldSeen_len l [];simpa [seenL] using this
theorem canL_take {l:List GTyItem} {k:Nat} {x:GTyItem} (h:l[k]? = some x):canL (l.take (k+1))=canL (l.take k) ++ [canX (seenX (seenL (l.take k)) x) x]/\seenL (l.take (k+1))=seenX (seenL (l.take k)) x:=by
 rw[take_snoc' h];exact⟨canL_snoc _ _,seenL_snoc _ _⟩
theorem idxOf_at {s:List Int} {n:Int} {j:Nat} (hj:s[j]? = some n) (h:∀k,k<j->s[k]?≠some n):s.idxOf n=j:=by
 induction s generalizing j with
 |nil=>simp at hj
 |cons a s ih=>
  cases j with
  |zero=>obtain rfl:=Option.some.inj hj;simp[List.idxOf_cons]
  |succ j=>
   have ha:a≠n:=fun e=>h 0 (by omega) (by rw[e];rfl)
   rw[List.idxOf_cons,beq_eq_false_iff_ne.2 ha]
   have:=ih (j:=j) (by simpa using hj) (fun k hk=>by have:=h (k+1) (by omega);simpa using this)
   simp[this]
theorem idxOf_new {s:List Int} {n:Int} (h:n ∉ s):(s ++ [n]).idxOf n=s.length:=by
 rw[List.idxOf_append,if_neg h];simp
theorem canX_named {s:List Int} {x:GTyItem} (h:x.name.toList.isEmpty=false):canX s x=x:=by unfold canX;rw[if_neg (by rw[h];simp)]
theorem seenX_named {s:List Int} {x:GTyItem} (h:x.name.toList.isEmpty=false):seenX s x=s:=by unfold seenX;rw[if_neg (by rw[h];simp)]
end Go.Proofs.YtkikkfjmggobpaaGreat
