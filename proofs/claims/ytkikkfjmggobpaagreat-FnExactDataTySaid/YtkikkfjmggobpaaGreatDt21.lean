/- Parts of the proof, merged: Ut2, Ut6. -/
import Derived.Lib.SliceRun
import Derived.Test.YtkikkfjmggobpaaGreatDt20
namespace Go.Proofs.YtkikkfjmggobpaaGreat
open Go.RowKit
set_option maxRecDepth 100000
set_option maxHeartbeats 16000000
set_option linter.unusedVariables false
set_option linter.unusedSimpArgs false
attribute [local go_sem] Ext.cell
/-! ### Plain -/
theorem seenX_pre (s:List Int) (x:GTyItem):∃m,seenX s x=s++m:=by
 unfold seenX
 split
 ·exact⟨_,rfl⟩
 ·exact⟨[],by simp⟩
theorem foldSeen_pre:∀ (l:List GTyItem) (s:List Int),∃m,l.foldl seenX s=s++m
 |[],s=>⟨[],by simp⟩
 |x :: l,s=>by
  obtain⟨m,hm⟩:=seenX_pre s x
  obtain⟨k,hk⟩:=foldSeen_pre l (seenX s x)
  exact⟨m++k,by rw[List.foldl_cons,hk,hm,List.append_assoc]⟩
theorem seenX_mem {s:List Int} {x:GTyItem} (h:x.name.toList.isEmpty=true):x.var∈seenX s x:=by
 unfold seenX
 split
 ·simp
 ·rename_i hn;exact Classical.byContradiction fun h2=>hn ⟨h,h2⟩
theorem canX_pre {s m:List Int} {x:GTyItem} : canX (seenX s x++m) x=canX (seenX s x) x:=by
 unfold canX
 by_cases h:x.name.toList.isEmpty=true
 ·rw[if_pos h,if_pos h,List.idxOf_append,if_pos (seenX_mem h)]
 ·rw[if_neg h,if_neg h]
theorem canGo_map:∀ (s:List Int) (l:List GTyItem),canGo s l=l.map (canX (l.foldl seenX s))
 |s,[]=>rfl
 |s,x :: l=>by
  obtain⟨m,hm⟩:=foldSeen_pre l (seenX s x)
  rw[canGo,canGo_map,List.map_cons,List.foldl_cons,hm,canX_pre]
theorem canL_map (l:List GTyItem):canL l=l.map (canX (seenL l)):=canGo_map [] l
theorem seen_in:∀ (l:List GTyItem) (s:List Int) (x:GTyItem),x∈l->x.name.toList.isEmpty=true->x.var∈l.foldl seenX s
 |y :: l,s,x,h,he=>by
  rw[List.foldl_cons]
  rcases List.mem_cons.1 h with rfl|h
  ·obtain⟨m,hm⟩:=foldSeen_pre l (seenX s x)
   rw[hm];exact List.mem_append_left _ (seenX_mem he)
  ·exact seen_in l _ x h he
def idxI (xs:List Int) (v:Int):Int:=if v∈xs then ((xs.idxOf v:Nat):Int) else -1
theorem idxI_hit {xs:List Int} {v:Int} {k:Nat} (h:xs[k]? = some v) (h2:∀y∈xs.take k,y≠v):idxI xs v=k:=by
 unfold idxI
 rw[if_pos (List.mem_of_getElem? h),idxOf_at h fun j hj e=>h2 v (List.mem_of_getElem? (by rw[List.getElem?_take,if_pos hj];exact e)) rfl]
theorem idxI_none {xs:List Int} {v:Int} (h:∀y∈xs,y≠v):idxI xs v = -1:=by
 unfold idxI
 rw[if_neg (fun e=>h v e rfl)]
/-! ### slices.Index, slices.Contains -/
theorem indexI_c (xs:List Int) (v:Int) (u:Value) (lo:Nat) (w:World) (hu:Sl IntR 1 lo w u xs) :
  Calls Tryz.prog 117 #[u,.int .i64 v] w fun e w'=>e=.returned (.int .i64 (idxI xs v))/\w' = w:=by
 obtain⟨ua,uc,rfl,ul,um,h0⟩:=hu
 have hpost1:(∀y∈xs,y≠v)->(-1:Int)=idxI xs v:=fun h=>(idxI_none h).symm
 have hpost2:∀ (k:Nat),xs[k]? = some v->(∀y∈xs.take k,y≠v)->(k:Int)=idxI xs v:=fun k h1 h2=>(idxI_hit h1 h2).symm
 generalize idxI xs v=q at *
 replace h0:=kH h0;replace hpost1:=kH hpost1;replace hpost2:=kH hpost2
 obtain⟨m,hm⟩ : ∃m,m=xs.length:=⟨_,rfl⟩
 rw[<- hm]at ul ⊢
 replace hm:=kH hm
 go_enter Tryz.func117,Tryz.ntmps117
 go_wp2_with fail
 go_loopw [8] (fun i wr=>∃k:Nat,k<=m/\i=.int .i64 k/\wr=w/\Hid (∀y∈xs.take k,y≠v)) (fun i _=>m-(intOf i).toNat)
 case atStart=>exact⟨0,by omega,rfl,rfl,fun y hy=>by simp at hy⟩
 case round=>
  obtain⟨k,hk,rfl,rfl,hF⟩:=hrel
  by_cases hlt:k<m
  ·obtain⟨b1,o1,x,r,_,rfl,P1,hx,r1⟩:=h0.out.get hm.out hlt
   obtain⟨rfl,hx64⟩:=hx
   have e_0:=by simpa using r1 0 _ rfl
   clear r1 hx64
   by_cases hxv:x=v
   ·have hx:(v == x)=true:=by rw[hxv];simp
    have h4:=hpost2.out k (by rw[<- hxv];exact P1.out) hF.out
    replace h4:=kH h4;replace hxv:=kH hxv
    go_wp2_with fail
    go_returns
    exact⟨by rw[h4.out];rfl,rfl⟩
   ·have hx:(v == x)=false:=beq_eq_false_iff_ne.2 (fun e=>hxv e.symm)
    go_wp2_with fail
    go_roundw
    case rel=>exact⟨k+1,by omega,by go_num,by first|rfl|trivial,by
     show ∀y∈xs.take (k+1),y≠v
     rw[take_snoc' P1.out]
     intro y hy
     rcases List.mem_append.1 hy with h|h
     ·exact hF.out y h
     ·simp at h;subst h;exact hxv⟩
    case measure=>simp[intOf];omega
  ·obtain rfl:k=m:=by omega
   have h4:=hpost1.out (by have hF:=hF.out;rw[List.take_of_length_le (by have:=hm.out;omega)]at hF;exact hF)
   replace h4:=kH h4
   go_wp2_with fail
   go_returns
   exact⟨by rw[<- h4.out];rfl,rfl⟩
theorem containsI_c (xs:List Int) (v:Int) (u:Value) (lo:Nat) (w:World) (hu:Sl IntR 1 lo w u xs) :
  Calls Tryz.prog 154 #[u,.int .i64 v] w fun e w'=>e=.returned (.bool (decide (v∈xs)))/\w' = w:=by
 have cI:=indexI_c xs v u lo w hu
 have hq:decide ((0:Int)<=idxI xs v)=decide (v∈xs):=by
  unfold idxI
  by_cases h:v∈xs
  ·rw[if_pos h];simp[h]
  ·rw[if_neg h];simp[h]
 generalize idxI xs v=k at *
 generalize decide (v∈xs)=q at *
 obtain⟨ua,uc,rfl⟩:=hu.form
 clear hu
 replace cI:=kH cI;replace hq:=kH hq
 go_enter Tryz.func154,Tryz.ntmps154
 go_wp2_with (go_at_call 117;(with_reducible refine(cI.out).mono ?_);rintro e w1 ⟨rfl,rfl⟩)
 go_returns
 exact⟨by rw[hq.out];rfl,rfl⟩
/-! ### slices.Clone -/
theorem slice_noneT {α:Type} {R:Reading α} {sz lo:Nat} {w:World} {xs:List α} (h:SlAt R sz lo w none xs):xs=[]:=by
 cases xs with
 |nil=>rfl
 |cons x xs=>obtain⟨b,off,_,ha,_⟩:=h (by simp);cases ha
theorem cloneT_c (xs:List GTyItem) (u:Value) (lo:Nat) (hlen:xs.length<=1048576) (w:World) (hu:Sl GTyItem.R 3 lo w u xs) :
  Calls Tryz.prog 116 #[u] w (ItPost xs w):=by
 have Hu:=hu
 obtain⟨a,c,rfl,l1,m1,hh⟩:=hu
 obtain⟨i0,hi0,hz0,hz1,hz2⟩:=info_parts info_TyItemU
 have qn:∀ (w:World) (a:Option Addr) (n c n' c' : Nat),(binOp .eql 31 (.slice a n c) (.slice none n' c')).run Tryz.prog w=.ok (.bool a.isNone) w:=fun w a n c n' c'=>Lib.run_eql_slice_nil w _ _ a n c n' c' Tryz.underlying31
 have I:=kH hi0;have I0:=kH hz0;have I1:=kH hz1;have I2:=kH hz2
 clear hi0 hz0 hz1 hz2
 cases a with
 |none=>
  obtain rfl:xs=[]:=slice_noneT hh
  clear Hu hh
  simp only[List.length_nil]
  go_enter Tryz.func116,Tryz.ntmps116
  go_wp2_with fail
  go_returns
  exact⟨_,rfl,OwnF.empty,by go_grown⟩
 |some a=>
  have hO:=own_new w #[] 107 3 0 rfl (by unfold maxLen;omega) w.heap.size (Nat.le_refl _)
  replace Hu:=kH Hu
  generalize hn:xs.length=n at *
  replace hn:=kH hn
  clear hh
  go_enter Tryz.func116,Tryz.ntmps116
  go_wp2_with (at_builtin;refine wpList_append_sl _ flatTyItem rfl _ _ _ rfl w.heap.size 107 i0 _ 32 Tryz.underlying31 I.out I0.out I1.out I2.out rfl w.heap.size 0 0 [] rfl hO lo _ xs rfl (Hu.out.below GTyItem.good (by go_grown)) (by rw[hn.out];unfold maxLen;omega) (by rw[hn.out];omega) (by simp) ?_;rw[hn.out];intro g cap w2 hown hgrow hg)
  have hb2:Below w.heap.size w w2:=below_grown (by go_grown) (by simp) hO hgrow
  go_returns
  refine⟨_,rfl,⟨?_,flatTyItem.wfs Hu.out⟩,hb2⟩
  rw[hn.out]
  simpa using hown
/-! ### varsIn -/
theorem info_IntU:(Tryz.prog.info? 3).map (fun i=>(i.zero,i.size,i.bytes))=some (some (.int .i64 0),1,8):=by kernel_rfl
def ViPost (l:List GTyItem) (w:World) (e:Ending) (w' : World):Prop:=∃v,e=.returned v/\OwnF 3 1 intRow I64 w.heap.size w' v (seenL l)/\Below w.heap.size w w'
theorem ownI_app {B g2 cap2 vn:Nat} {w w6:World} {ov:Value} {Pi:List Int} {v:Int} (T:OwnF 3 1 intRow I64 B w ov Pi) (hvn:vn=Pi.length) (hwf:I64 v)
  (hown:w6.ownsRow B 3 1 (.slice (some ⟨g2,0,none⟩) (vn+1) cap2) (vn+1) (rowsOf intRow Pi ++ [.int .i64 v])):OwnF 3 1 intRow I64 B w6 (.slice (some ⟨g2,0,none⟩) (vn+1) cap2) (Pi ++ [v]):=by
 refine⟨?_,fun y hy=>?_⟩
 ·rw[List.length_append,<- hvn,rowsOf_append,rowsOf_one];exact hown
 ·rcases List.mem_append.1 hy with h|h
  ·exact T.2 y h
  ·simp only[List.mem_singleton]at h;rw[h];exact hwf
theorem varsIn_c (l:List GTyItem) (hB:l.length<=1000000000) (tv:Value) (w:World) (ht:Sl GTyItem.R 3 0 w tv l) :
  Calls Tryz.prog 115 #[tv] w (ViPost l w):=by
 have hpost:∀W v,OwnF 3 1 intRow I64 w.heap.size W v (seenL l)->Below w.heap.size w W->ViPost l w (.returned v) W:=fun W v h1 h3=>⟨v,rfl,h1,h3⟩
 generalize ViPost l w=Q at *
 obtain⟨ta,tc,rfl,tl,tm,t0⟩:=ht
 obtain⟨n,hn⟩ : ∃n,n=l.length:=⟨_,rfl⟩
 rw[<- hn]at tl hB ⊢
 have tK:∀W,Below w.heap.size w W->SlAt GTyItem.R 3 0 W ta l:=fun W hW=>t0.below GTyItem.good hW
 replace tK:=kH tK;replace hn:=kH hn;replace hpost:=kH hpost
 clear t0
 obtain⟨iI,hi0,hz0,hz1,hz2⟩:=info_parts info_IntU;have II:=kH hi0;have II0:=kH hz0;have II1:=kH hz1;have II2:=kH hz2;clear hi0 hz0 hz1 hz2
 go_enter Tryz.func115,Tryz.ntmps115
 go_upto_region 2 with fail
 obtain⟨w1,hW1⟩ : ∃W,W=w.alloc (.cells #[] 3):=⟨_,rfl⟩
 rw[<- hW1]
 have hw1:Below w.heap.size w w1:=by rw[hW1];go_grown
 have O1:OwnF 3 1 intRow I64 w.heap.size w1 (.slice (some ⟨w.heap.size,0,none⟩) 0 0) (seenL (l.take 0)):=by
  rw[List.take_zero,hW1]
  exact⟨own_empty_at (by have h:=heap_alloc_new' w (.cells #[] 3) _ rfl;simpa using h) (Nat.le_refl _),fun x h=>by cases h⟩
 generalize (Value.slice (some ⟨w.heap.size,0,none⟩) 0 0)=ov0 at *
 replace O1:=kH O1
 clear hW1
 go_wp2_with fail
 go_loopw [3,9] (fun ov ii wr=>∃ (i:Nat),i<=n/\ii=.int .i64 i/\Hid (OwnF 3 1 intRow I64 w.heap.size wr ov (seenL (l.take i)))/\Below w.heap.size w wr) (fun _ ii _=>n-(intOf ii).toNat)
 case atStart=>exact⟨0,by omega,rfl,O1,hw1⟩
 case round=>
  clear O1 hw1
  obtain⟨i,hi,rfl,OT,hw⟩:=hrel
  by_cases hlt:i<n
  ·obtain⟨b1,o1,x,r,_,rfl,P1,⟨rfl,hwf⟩,r1⟩:=(tK.out _ hw).get hn.out hlt
   obtain⟨-,hstep⟩:=canL_take P1.out
   have hle:=seenL_len (l.take i)
   rw[List.length_take]at hle
   obtain⟨va,nm,ar⟩:=x
   dsimp only[tyRow]at r1
   have e_0:wr.cell? ⟨b1,o1+i*3,none⟩=some (.int .i64 va):=by simpa using r1 0 _ rfl
   have e_1:wr.cell? ⟨b1,o1+i*3+1,none⟩=some (.string nm):=r1 1 _ rfl
   have e_2:wr.cell? ⟨b1,o1+i*3+2,none⟩=some (.int .i64 ar):=r1 2 _ rfl
   have hbb1:=World.block_lt_of_cell? _ _ e_0;dsimp only at hbb1
   obtain⟨q,hq⟩ : ∃q,nm.toList.isEmpty=q:=⟨_,rfl⟩
   have hq2:(nm.toList == [])=q:=by rw[<- hq];cases nm.toList<;>rfl
   generalize hPi:seenL (l.take i)=Pi at *
   have hs1:(q=false\/va∈Pi)->seenL (l.take (i+1))=Pi:=fun h=>by
    rw[hstep]
    unfold seenX
    dsimp only
    rw[if_neg]
    rintro ⟨h1,h2⟩
    rcases h with rfl|h
    ·rw[h1]at hq;cases hq
    ·exact h2 h
   have hs2:q=true->va ∉ Pi->seenL (l.take (i+1))=Pi ++ [va]:=fun h h2=>by
    rw[hstep]
    unfold seenX
    dsimp only
    rw[if_pos ⟨by rw[hq,h],h2⟩]
   have hva:I64 va:=hwf.1
   generalize hPn:seenL (l.take (i+1))=Pn at *
   clear r1 P1 hstep
   obtain⟨vn,hvn⟩ : ∃y,y=Pi.length:=⟨_,rfl⟩
   have hvl:vn<=1000000000:=by omega
   clear hle
   replace hq:=kH hq;replace hPi:=kH hPi;replace hPn:=kH hPn;replace hwf:=kH hwf;replace hs1:=kH hs1;replace hs2:=kH hs2;replace hva:=kH hva
   go_upto_region 5 with fail
   obtain⟨w2,hW2⟩ : ∃W,W=wr.alloc (.cells #[.int .i64 va,.string nm,.int .i64 ar] 107):=⟨_,rfl⟩
   rw[<- hW2]
   have hb2:Below wr.heap.size wr w2:=by rw[hW2];go_grown
   have X:RowAt w2 wr.heap.size 0 [.int .i64 va,.string nm,.int .i64 ar]:=by rw[hW2];exact RowAt.box wr #[_,_,_] _
   have hz2:wr.heap.size+1<=w2.heap.size:=by rw[hW2];simp
   obtain⟨xb,hxb⟩ : ∃x,x=wr.heap.size:=⟨_,rfl⟩
   rw[<- hxb]at X hz2 ⊢
   have T2:=OT.out.below hb2
   have hw2:=hw.trans (hb2.mono hw.size)
   have hzw:=hw2.size
   obtain⟨va',vc',rfl⟩:=T2.form
   rw[<- hvn]at T2 ⊢
   have hown:=T2.1
   rw[<- hvn]at hown
   have hbs:=T2.base
   have hbx:=OT.out.base
   rw[<- hvn]at hbx
   have hox:∀g,(Value.slice va' vn vc').ownBlock=some g->g≠xb:=fun g hg=>by have:=hbx g hg;omega
   have cC:=containsI_c Pi va _ _ w2 (T2.sl flatInt)
   replace T2:=kH T2;replace hown:=kH hown;replace hox:=kH hox;replace hbs:=kH hbs
   replace hvn:=kH hvn;replace hxb:=kH hxb;replace cC:=kH cC
   clear hW2 hb2 e_0 e_1 e_2 hbb1 OT hbx
   obtain⟨x_0,x_1,x_2⟩:=X.box3;have hsX:=bLt x_0
   cases q
   ·have hn1:=hs1.out (.inl rfl)
    replace hn1:=kH hn1
    go_wp2_with fail
    go_roundw
    case rel=>exact⟨i+1,by omega,by go_num,kH (by rw[hPn.out,hn1.out];exact T2.out),hw2⟩
    case measure=>simp[intOf];omega
   ·by_cases hmem:va∈Pi
    ·have hn1:=hs1.out (.inr hmem)
     have dm:decide (va∈Pi)=true:=decide_eq_true hmem
     replace hn1:=kH hn1
     rw[dm]at cC
     clear hs1 hs2 dm hmem
     go_wp2_with (go_at_call 154;(with_reducible refine(cC.out).mono ?_);rintro e w3 ⟨rfl,rfl⟩)
     go_roundw
     case rel=>exact⟨i+1,by omega,by go_num,kH (by rw[hPn.out,hn1.out];exact T2.out),hw2⟩
     case measure=>simp[intOf];omega
    ·have hn1:=hs2.out (by first|trivial|rfl) hmem
     have dm:decide (va∈Pi)=false:=decide_eq_false hmem
     replace hn1:=kH hn1
     rw[dm]at cC
     clear hs1 hs2 dm hmem
     go_wp2_with (first|(go_at_call 154;(with_reducible refine(cC.out).mono ?_);rintro e w3 ⟨rfl,rfl⟩)|(at_builtin;refine wpList_append_lies _ rfl _ _ _ rfl (w.heap.size) 3 iI _ 1 8 Tryz.underlying91 II.out II0.out II1.out II2.out rfl (by omega) (.slice va' vn vc') (vn) (rowsOf intRow Pi) rfl (own_below hown.out (by go_grown)) ⟨w3.heap.size,0,none⟩ 1 1 [.int .i64 va] rfl rfl (World.news_of_block (cs:=#[.int .i64 va]) (t:=3) (fr:=(0,0)) (heap_alloc_new' _ _ _ (by simp))) (by intro u hu;simp at hu;repeat' first|(subst hu;rfl)|rcases hu with hu|hu) (by omega) (by unfold maxLen;omega) (by omega) (by simp;omega) _ rfl ?_;intro g2 cap2 w6 hown6 hgrow hat hlt2))
     have hbA:Below w3.heap.size w3 (w3.alloc (.cells #[.int .i64 va] 3)):=by go_grown
     have y1:=ownI_app (T2.out.below hbA) hvn.out hva.out hown6
     have y2:=below_grown2 (wr:=w3) (base:=w.heap.size) hgrow hbA hw2 hw2.size hown.out
     go_roundw
     case rel=>exact⟨i+1,by omega,by go_num,kH (by rw[hPn.out,hn1.out];exact y1),y2⟩
     case measure=>simp[intOf];omega
  ·obtain rfl:i=n:=by omega
   have OT':=OT.out
   rw[List.take_of_length_le (by have:=hn.out;omega)]at OT'
   go_wp2_with fail
   exact hpost.out _ _ OT' hw
/-! ### Plain -/
theorem seen_mem {l:List GTyItem} {n:Int} : n∈seenL l ↔ ∃x∈l,x.name.toList.isEmpty=true/\x.var=n:=by
 have go:∀ (l:List GTyItem) (s:List Int),n∈l.foldl seenX s ↔ n∈s\/∃x∈l,x.name.toList.isEmpty=true/\x.var=n:=fun l=>by
  induction l with
  |nil=>intro s;simp
  |cons x l ih=>
   intro s
   rw[List.foldl_cons,ih]
   have h1:n∈seenX s x ↔ n∈s\/(x.name.toList.isEmpty=true/\x.var=n):=by
    unfold seenX
    split
    ·rename_i h;rw[List.mem_append,List.mem_singleton];constructor
     ·rintro (h2|h2);exact .inl h2;exact .inr ⟨h.1,h2.symm⟩
     ·rintro (h2|h2);exact .inl h2;exact .inr h2.2.symm
    ·rename_i h;constructor
     ·exact .inl
     ·rintro (h2|⟨h2,h3⟩);exact h2;exact Classical.byContradiction fun h4=>h ⟨h2,by rw[h3];exact h4⟩
   rw[h1,or_assoc]
   constructor
   ·rintro (h|h|⟨y,h2,h3⟩);exact .inl h;exact .inr ⟨x,by simp,h⟩;exact .inr ⟨y,by simp[h2],h3⟩
   ·rintro (h|⟨y,h2,h3⟩)
    ·exact .inl h
    ·rcases List.mem_cons.1 h2 with rfl|h2
     ·exact .inr (.inl h3)
     ·exact .inr (.inr ⟨y,h2,h3⟩)
 have:=go l []
 simpa [seenL] using this
theorem ins_at {n:Int} {u:TyT} {τ:Sbs} {k:Nat} (h1:∀y∈τ.take k,y.1<n) (h2:∀y,τ[k]? = some y->n<y.1):insS n u τ=τ.take k++(n,u) :: τ.drop k:=by
 conv=>lhs;rw[<- List.take_append_drop k τ]
 rw[insS_not fun q hq=>by have:=h1 q hq;omega]
 congr 1
 cases hd:τ.drop k with
 |nil=>rfl
 |cons y l=>
  have hy:τ[k]? = some y:=by
   have:=congrArg (fun l=>l[0]?) hd
   simpa [List.getElem?_drop] using this
  unfold insS
  rw[if_pos (h2 y hy)]
theorem get_ins {α:Type} {l:List α} {k i:Nat} {x:α} (hk:k<=l.length):(l.take k++x :: l.drop k)[i]? = if i<k then l[i]? else if i=k then some x else l[i-1]?:=by
 have hl:(l.take k).length=k:=by rw[List.length_take];omega
 by_cases h1:i<k
 ·rw[if_pos h1,List.getElem?_append_left (by omega),List.getElem?_take,if_pos h1]
 ·rw[if_neg h1,List.getElem?_append_right (by omega),hl]
  by_cases h2:i=k
  ·subst h2;rw[if_pos rfl];simp
  ·rw[if_neg h2,show i-k=(i-1-k)+1 by omega,List.getElem?_cons_succ,List.getElem?_drop]
   congr 1;omega
theorem own_sbs {B lo:Nat} {w:World} {v:Value} {ps:List SubV} {τ:Sbs} (h:OwnS B w v ps) (hlen:ps.length=τ.length) (hlo:lo<=B) (rd:∀ (i:Nat) p q,ps[i]? = some p->τ[i]? = some q->p.k=q.1/\Sl GTyItem.R 3 lo w p.v (flatY q.2)):Sl SubR 2 lo w v τ:=by
 obtain⟨a,c,hv,h1,h2,h3⟩:=h.sl flatSubV
 rw[hlen]at hv h1
 refine⟨a,c,hv,h1,h2,fun h0=>?_⟩
 obtain⟨b,off,h4,h5,h6⟩:=h3 (by rw[hlen];exact h0)
 refine⟨b,off,Nat.le_trans hlo h4,h5,fun i q hq=>?_⟩
 obtain⟨p,hp⟩ : ∃p,ps[i]? = some p:=⟨_,List.getElem?_eq_getElem (by have:=(List.getElem?_eq_some_iff.1 hq).1;omega)⟩
 obtain⟨r,⟨rfl,h64⟩,h7⟩:=h6 i p hp
 obtain⟨h8,h9⟩:=rd i p q hp hq
 exact⟨_,⟨p.v,by rw[<- h8];rfl,by rw[<- h8];exact h64,h9⟩,h7⟩
theorem own_ins {B lo k g cap:Nat} {w w' : World} {ov:Value} {ps:List SubV} {τ:Sbs} {p:SubV} {q:Int × TyT} (h:SbO B lo w ov ps τ) (hlo:lo<=B) (hk:k<=ps.length) (hpk:p.k=q.1) (hp:Sl GTyItem.R 3 lo w p.v (flatY q.2)) (hpo:∀g,ov.ownBlock=some g->p.v.ownBlock≠some g)
  (hO:OwnS B w' (.slice (some ⟨g,0,none⟩) (ps.length+1) cap) (ps.take k++p :: ps.drop k)) (hK:Kept (fun q=>some q=ov.ownBlock) w w') :
  Sl SubR 2 lo w' (.slice (some ⟨g,0,none⟩) (ps.length+1) cap) (τ.take k++q :: τ.drop k):=by
 have hl:=h.len
 refine own_sbs hO (by simp;omega) hlo fun i p' q' h1 h2=>?_
 rw[get_ins hk]at h1
 rw[get_ins (by omega)]at h2
 have old:∀j,ps[j]? = some p'->τ[j]? = some q'->p'.k=q'.1/\Sl GTyItem.R 3 lo w' p'.v (flatY q'.2):=fun j h1 h2=>by
  obtain⟨h3,h4,h5⟩:=h.rd j p' q' h1 h2
  exact⟨h3,sl_kept2 flatTyItem h4 hK fun b hb e=>h5 b e.symm hb⟩
 by_cases c1:i<k
 ·rw[if_pos c1]at h1 h2;exact old i h1 h2
 ·rw[if_neg c1]at h1 h2
  by_cases c2:i=k
  ·rw[if_pos c2]at h1 h2
   obtain rfl:=Option.some.inj h1
   obtain rfl:=Option.some.inj h2
   exact⟨hpk,sl_kept2 flatTyItem hp hK fun b hb e=>hpo b e.symm hb⟩
  ·rw[if_neg c2]at h1 h2;exact old _ h1 h2
def lgB (n:Int) (u:TyT) (σ:Sbs) (j:Nat):Bool:=decide (200<szY u)||(mapS n u (σ.take j)).any fun p=>decide (200<szY p.2)
theorem lgB_step {n:Int} {u:TyT} {σ:Sbs} {j:Nat} {p:Int × TyT} (h:σ[j]? = some p):lgB n u σ (j+1)=(lgB n u σ j||decide (200<szY (subY [(n,u)] p.2))):=by
 unfold lgB;rw[mapS_snoc h,List.any_append];simp[Bool.or_assoc]
theorem lgB_end {n:Int} {u:TyT} {σ:Sbs} : lgB n u σ σ.length=(insS n u (mapS n u σ)).any fun p=>decide (200<szY p.2):=by
 unfold lgB
 rw[List.take_length,Bool.eq_iff_iff,Bool.or_eq_true,List.any_eq_true,List.any_eq_true]
 constructor
 ·rintro (h|⟨p,h1,h2⟩)
  ·exact⟨(n,u),insS_mem.2 (.inl rfl),h⟩
  ·exact⟨p,insS_mem.2 (.inr h1),h2⟩
 ·rintro ⟨p,h1,h2⟩
  rcases insS_mem.1 h1 with rfl|h1
  ·exact .inl h2
  ·exact .inr ⟨p,h1,h2⟩
def BdPost (b:Nat) (P0 P1 L3 L4 L5:Value) (r:Int × Sbs) (w:World) (e:Ending) (w' : World):Prop:=
 ∃lv,e=.returned (.int .i64 r.1)/\RowAt w' b 0 [P0,P1,lv,L3,L4,L5]/\Wr w' b 0 6/\(∃a n c,lv=.slice a n c)/\(r.1=0->Sl SubR 2 (b+1) w' lv r.2)/\IFr b w w'
theorem bind_c {b:Nat} {P0 P1 L3 L4 L5:Value} (σ:Sbs) (n:Int) (u:TyT) (hn64:I64 n) (hu:NamesY u) (hσ:NamesS σ) (hσz:∀p∈σ,szY p.2<=200) (hz:szY u<=40000) (hlen:σ.length<=1000000) (hne:∀p∈σ,p.1≠n) (lv uv:Value) (w:World)
  (RB:RowAt w b 0 [P0,P1,lv,L3,L4,L5]) (RBW:Wr w b 0 6) (hl:Sl SubR 2 (b+1) w lv σ) (hv:Sl GTyItem.R 3 (b+1) w uv (flatY u)) :
  Calls Tryz.prog 155 #[.pointer (some ⟨b,2,none⟩),.int .i64 n,uv] w (BdPost b P0 P1 L3 L4 L5 (bindY σ n u) w):=by
 have hbw:b<w.heap.size:=World.block_lt_of_cell? _ _ (RB 0 _ rfl)
 have cV:=fun W (hW:Below w.heap.size w W)=>varsIn_c (flatY u) (by rw[flatY_len];omega) uv W ((hv.below GTyItem.good hW).mono GTyItem.good (Nat.zero_le _))
 unfold ViPost at cV
 have hocc:(n∈seenL (flatY u)) ↔ occY n u=true:=by rw[seen_mem];exact occ_items n u hu
 have hb3:occY n u=true->bindY σ n u=(3,[]):=fun h=>by unfold bindY;rw[if_pos h]
 have hb4:occY n u=false->lgB n u σ σ.length=true->bindY σ n u=(4,[]):=fun h h2=>by
  unfold bindY
  rw[if_neg (by rw[h];simp),if_pos (by rw[lgB_end]at h2;exact h2)]
 have hb0:occY n u=false->lgB n u σ σ.length=false->bindY σ n u=(0,insS n u (mapS n u σ)):=fun h h2=>by
  unfold bindY
  rw[if_neg (by rw[h];simp),if_neg (by rw[lgB_end]at h2;rw[h2];simp)]
 have hpost:∀W lv r,RowAt W b 0 [P0,P1,lv,L3,L4,L5]->Wr W b 0 6->(∃a n c,lv=Value.slice a n c)->bindY σ n u=r->(r.1=0->Sl SubR 2 (b+1) W lv r.2)->IFr b w W->BdPost b P0 P1 L3 L4 L5 (bindY σ n u) w (.returned (.int .i64 r.1)) W:=fun W lv r h1 h2 h3 h4 h5 h6=>by
  rw[h4];exact⟨lv,rfl,h1,h2,h3,h5,h6⟩
 generalize BdPost b P0 P1 L3 L4 L5 (bindY σ n u) w=Q at *
 have cA:∀ (ov:Value) t W (tv:Value),szY t<=200->NamesY t->Sl SubR 2 0 W ov [(n,u)]->Sl GTyItem.R 3 0 W tv (flatY t)->Calls Tryz.prog 72 #[tv,ov] W (ItPost (flatY (subY [(n,u)] t)) W):=fun ov t W tv h1 h2 h3 h4=>by
  rw[<- putL_flat _ _ h2]
  refine put_c (flatY t) [(n,u)] ?_ tv ov W h4 h3
  rw[putL_flat _ _ h2,flatY_len]
  have h5:=sz_sub1 n u t
  have h6:szY u*szY t<=40000*200:=Nat.mul_le_mul hz h1
  omega
 unfold ItPost at cA
 have hU:=fun W (hW:Below w.heap.size w W)=>hv.below GTyItem.good hW
 obtain⟨ua,uc,rfl⟩:=hv.form
 obtain⟨un,hun⟩ : ∃x,x=(flatY u).length:=⟨_,rfl⟩
 rw[<- hun]at cV hU ⊢
 obtain⟨la,lc,rfl,ll,lm,l0⟩:=hl
 obtain⟨m,hm⟩ : ∃m,m=σ.length:=⟨_,rfl⟩
 rw[<- hm]at ll hlen hb4 hb0 RB
 have lK:∀W,Below w.heap.size w W->SlAt SubR 2 (b+1) W la σ:=fun W hW=>l0.below SubR.good hW
 obtain⟨oc,hoc⟩ : ∃q,occY n u=q:=⟨_,rfl⟩
 rw[hoc]at hb3 hb4 hb0 hocc
 have hdec:decide (n∈seenL (flatY u))=oc:=by rw[Bool.eq_iff_iff,decide_eq_true_iff];exact hocc
 have hsz0:decide (200<szY u)=decide ((200:Int)<(un:Int)):=by rw[hun,flatY_len];simp;omega
 generalize seenL (flatY u)=ys at *
 replace cV:=kH cV;replace hb3:=kH hb3;replace hb4:=kH hb4;replace hb0:=kH hb0;replace hpost:=kH hpost;replace cA:=kH cA;replace hU:=kH hU;replace lK:=kH lK;replace hm:=kH hm;replace hun:=kH hun;replace hoc:=kH hoc;replace hσ:=kH hσ;replace hσz:=kH hσz;replace hne:=kH hne;replace hsz0:=kH hsz0;replace hdec:=kH hdec
 clear hv l0 hocc
 obtain⟨iS,hi0,hz0,hz1,hz2⟩:=info_parts info_SubB;have IS:=kH hi0;have IS0:=kH hz0;have IS1:=kH hz1;have IS2:=kH hz2;clear hi0 hz0 hz1 hz2
 go_enter Tryz.func155,Tryz.ntmps155
 go_upto_if 16 with(first
  |(go_at_call 115;(with_reducible refine(cV.out _ (by go_grown)).mono ?_);rintro e w2 ⟨v2,rfl,hY,hb2⟩;have hw2:Below w.heap.size w w2:=hb2;have cH:=containsI_c ys n v2 _ w2 (hY.sl flatInt);have R2:=RB.below hw2;have R2W:=RBW.below hw2;clear hb2;replace cH:=kH cH)
  |(go_at_call 154;(with_reducible refine(cH.out).mono ?_);rintro e w3 ⟨rfl,rfl⟩))
 rw[hdec.out]
 clear cV hdec cH hY RB RBW
 cases oc
 rotate_left
 ·have h3:=hpost.out w3 (.slice la m lc) (3,[]) R2 R2W ⟨_,_,_,rfl⟩ (hb3.out rfl) (fun h=>by cases h) (IFr.of hw2 (Nat.le_of_lt hbw))
  replace h3:=kH h3
  go_wp2_with fail
  exact h3.out
 clear hb3
 go_upto_region 6 with fail
 obtain⟨w5,hW5⟩ : ∃W,W=(w3.alloc (.cells #[.int .i64 n,.slice ua un uc] 119)).alloc (.cells #[] 119):=⟨_,rfl⟩
 rw[<- hW5]
 have hb5:Below w3.heap.size w3 w5:=by rw[hW5];go_grown
 have hz5:w5.heap.size=w3.heap.size+2:=by rw[hW5];simp
 have N5:RowAt w5 w3.heap.size 0 [.int .i64 n,.slice ua un uc]:=by
  rw[hW5]
  exact(RowAt.box w3 #[.int .i64 n,.slice ua un uc] 119).below (by go_grown)
 have O5:SbO (w3.heap.size+1) (b+1) w5 (.slice (some ⟨w3.heap.size+1,0,none⟩) 0 0) [] []:=SbO.nil ⟨own_empty_at (by rw[hW5];have h:=heap_alloc_new' (w3.alloc (.cells #[.int .i64 n,.slice ua un uc] 119)) (.cells #[] 119) _ rfl;simpa using h) (Nat.le_refl _),fun x h=>by cases h⟩
 have hone:∀ (W:World) (b:Nat),RowAt W b 0 [.int .i64 n,.slice ua un uc]->Below w.heap.size w W->Sl SubR 2 0 W (.slice (some ⟨b,0,none⟩) 1 1) [(n,u)]:=fun W b hN hW=>by
  refine⟨_,1,rfl,Nat.le_refl _,by decide,fun _=>⟨b,0,Nat.zero_le _,rfl,fun i x hx=>?_⟩⟩
  match i,hx with
  |0,hx=>
   obtain rfl:=Option.some.inj hx
   exact⟨_,⟨.slice ua un uc,rfl,hn64,(hU.out W hW).mono GTyItem.good (Nat.zero_le _)⟩,hN⟩
  |i+1,hx=>simp at hx
 replace hone:=kH hone
 have hw5:=hw2.trans (hb5.mono hw2.size)
 have hbn:b<w3.heap.size:=by have:=hw2.size;omega
 have hwn:=hw2.size
 have R5:=R2.below hb5
 have R5W:=R2W.below hb5
 obtain⟨nb,hnb⟩ : ∃x,x=w3.heap.size:=⟨_,rfl⟩
 rw[<- hnb]at N5 O5 hz5 hbn hwn ⊢
 have hov5:∀g,(Value.slice (some ⟨nb+1,0,none⟩) 0 0).ownBlock=some g->g≠nb:=fun g hg=>by simp[Value.ownBlock]at hg;omega
 generalize (Value.slice (some ⟨nb+1,0,none⟩) 0 0)=ov0 at *
 have hubk:∀b,(Value.slice ua un uc).ownBlock=some b->b<nb:=fun b hb=>by
  have h1:=hU.out w3 hw2
  obtain⟨a',c',hv',_,_,h8⟩:=h1
  have h0:0<(flatY u).length:=by rw[flatY_len];exact szY_pos u
  obtain⟨b2,off,_,e1,h9⟩:=h8 h0
  obtain⟨rfl,rfl⟩ : ua=a'/\uc=c':=by injection hv' with e1 e2 e3;exact⟨e1,e3⟩
  subst e1
  obtain rfl:b2=b:=by simpa [Value.ownBlock] using hb
  obtain⟨y,hy⟩ : ∃y,(flatY u)[0]? = some y:=⟨_,List.getElem?_eq_getElem h0⟩
  obtain⟨r,⟨rfl,_⟩,h10⟩:=h9 0 y hy
  have:=World.block_lt_of_cell? _ _ (h10 0 _ rfl)
  dsimp only at this;omega
 have hlg0:decide ((200:Int)<(un:Int))=lgB n u σ 0:=by rw[<- hsz0.out];unfold lgB;simp[mapS]
 obtain⟨lg0,hlg⟩ : ∃q,decide ((200:Int)<(un:Int))=q:=⟨_,rfl⟩
 rw[hlg]at hlg0 ⊢
 have hzn5:nb+1<=w5.heap.size:=by omega
 replace O5:=kH O5;replace hnb:=kH hnb;replace hov5:=kH hov5;replace hubk:=kH hubk;replace hlg0:=kH hlg0
 clear hW5 hb5 hz5 hlg hsz0 R2 R2W
 obtain⟨r5_0,r5_1,r5_2,r5_3,r5_4,r5_5⟩:=R5.box6;have hsR5:=bLt r5_0
 go_wp2_with fail
 go_loopw [8,9,31] (fun gv sv iv wr=>∃ (j:Nat) (lg:Bool) (ps:List SubV) (ov:Value),ov=sv/\j<=m/\iv=.int .i64 j/\gv=.bool lg/\Hid (lg=lgB n u σ j)/\Hid (SbO (nb+1) (b+1) wr ov ps (mapS n u (σ.take j)))/\Hid (∀g,ov.ownBlock=some g->g≠nb)/\RowAt wr nb 0 [.int .i64 n,.slice ua un uc]/\RowAt wr b 0 [P0,P1,.slice la m lc,L3,L4,L5]/\Wr wr b 0 6/\Below w.heap.size w wr/\nb+1<=wr.heap.size) (fun _ _ iv _=>m-(intOf iv).toNat)
 case atStart=>exact⟨0,lg0,[],_,rfl,by omega,rfl,rfl,hlg0,by simpa [mapS] using O5,hov5,N5,R5,R5W,hw5,hzn5⟩
 case round=>
  clear O5 hlg0 hov5 N5 hw5 hzn5 R5 R5W r5_0 r5_1 r5_2 r5_3 r5_4 r5_5 hsR5 hw2
  obtain⟨j,lg,ps,ov,rfl,hj,rfl,rfl,hlg,O,hov,N,R,RW,hw,hzn⟩:=hrel
  have hz':=hw.size
  have hpsl:=O.out.len
  by_cases hlt:j<m
  ·obtain⟨b1,o1,p,r1,_,rfl,P1,⟨tv,rfl,hp64,ht⟩,r1w⟩:=(lK.out w (Below.refl _ w)).get hm.out hlt
   obtain⟨k,t⟩:=p
   obtain⟨ta,tc,rfl⟩:=ht.form
   obtain⟨tn,htn⟩ : ∃x,x=(flatY t).length:=⟨_,rfl⟩
   dsimp only at hp64 ht r1w
   rw[<- htn]at r1w ht
   have r1':=r1w.below hw
   have hpm:=List.mem_of_getElem? P1.out
   have htz:=hσz.out _ hpm
   have htN:=hσ.out _ hpm
   have e_0:wr.cell? ⟨b1,o1+j*2,none⟩=some (.int .i64 k):=by simpa using r1' 0 _ rfl
   have e_1:wr.cell? ⟨b1,o1+j*2+1,none⟩=some (.slice ta tn tc):=r1' 1 _ rfl
   have hbb1:=World.block_lt_of_cell? _ _ e_0;dsimp only at hbb1
   dsimp only at htz htN
   have hmap:=mapS_snoc (n:=n) (u:=u) P1.out
   have hlgs:=lgB_step (n:=n) (u:=u) P1.out
   rw[<- hlg.out]at hlgs
   have htr:∀W,Below w.heap.size w W->Sl GTyItem.R 3 0 W (.slice ta tn tc) (flatY t):=fun W hW=>(ht.below GTyItem.good hW).mono GTyItem.good (Nat.zero_le _)
   dsimp only at hmap hlgs
   replace htn:=kH htn;replace hp64:=kH hp64;replace hmap:=kH hmap;replace hlgs:=kH hlgs;replace htr:=kH htr
   clear r1' r1w ht hpm P1
   go_upto_region 9 with fail
   obtain⟨w4,hW4⟩ : ∃W,W=wr.alloc (.cells #[.int .i64 k,.slice ta tn tc] 119):=⟨_,rfl⟩
   rw[<- hW4]
   have hb4:Below wr.heap.size wr w4:=by rw[hW4];go_grown
   have S:RowAt w4 wr.heap.size 0 [.int .i64 k,.slice ta tn tc]:=by rw[hW4];exact RowAt.box wr #[_,_] _
   have SW:Wr w4 wr.heap.size 0 2:=by rw[hW4];exact Wr.box wr #[_,_] _
   have hz4:wr.heap.size+1<=w4.heap.size:=by rw[hW4];simp
   obtain⟨sb,hsb⟩ : ∃x,x=wr.heap.size:=⟨_,rfl⟩
   rw[<- hsb]at S SW hz4 ⊢
   have hw4:=hw.trans (hb4.mono hz')
   have N4:=N.below hb4
   have cB:=cA.out _ t w4 _ htz htN (hone.out w4 nb N4 hw4) (htr.out w4 hw4)
   replace hsb:=kH hsb;replace cB:=kH cB
   clear hW4 e_0 e_1 hbb1 N4
   obtain⟨s_0,s_1⟩:=S.box2;have hsS:=bLt s_0
   have sf_1:=SW.frz 1 (by omega)
   go_upto_region 10 with(go_at_call 72;(with_reducible refine(cB.out).mono ?_);rintro e w6 ⟨v6,rfl,T6,hb6⟩;obtain⟨a6,c6,rfl⟩:=T6.form;have S6:=S.below hb6;have S6W:=SW.below hb6;have s6_1:=S6.box2.2;have s6f_1:=S6W.frz 1 (by omega))
   have hwr4:Below wr.heap.size wr w4:=by
    have hsz4:=hsb.out
    exact hb4
   have hb46:=hwr4.trans (hb6.mono (by have:=hwr4.size;omega))
   obtain⟨n6,hn6⟩ : ∃x,x=(flatY (subY [(n,u)] t)).length:=⟨_,rfl⟩
   rw[<- hn6]at T6 ⊢
   obtain⟨w7,hW7⟩ : ∃W,W=w6.setCell ⟨sb,1,none⟩ (.slice a6 n6 c6):=⟨_,rfl⟩
   rw[<- hW7]
   have hb7:Below wr.heap.size wr w7:=by rw[hW7];exact hb46.setCell (p:=⟨sb,1,none⟩) (by have:=hsb.out;dsimp only;omega) _
   have S7:RowAt w7 sb 0 [.int .i64 k,.slice a6 n6 c6]:=by rw[hW7];exact S6.putAt (j:=1) (by simp) _
   have hb6s:=T6.base
   have T7:OwnT w4.heap.size w7 (.slice a6 n6 c6) (flatY (subY [(n,u)] t)):=by
    rw[hW7]
    exact T6.kept ((Kept.refl (fun q=>q=sb) w6).set (p:=⟨sb,1,none⟩) rfl _) (fun g hg e=>by have:=hb6s g hg;omega)
   have hz7:sb+1<=w7.heap.size:=by have:=World.block_lt_of_cell? _ _ (S7 0 _ rfl);dsimp only at this;omega
   have hvb:∀g,(Value.slice a6 n6 c6).ownBlock=some g->sb<g/\g<w7.heap.size:=fun g hg=>by have:=hb6s g hg;have:=(T7.base) g hg;omega
   have hbo:=O.out.own.base
   have O7:=O.out.below hb7
   have N7:=N.below hb7
   have R7:=R.below hb7
   have R7W:=RW.below hb7
   have hw7:=hw.trans (hb7.mono hz')
   have hszt:=flatY_len (subY [(n,u)] t)
   have hd7:decide (200<szY (subY [(n,u)] t))=decide ((200:Int)<(n6:Int)):=by rw[hn6,hszt];simp;omega
   rw[hd7]at hlgs
   obtain⟨d6,hd6⟩ : ∃q,decide ((200:Int)<(n6:Int))=q:=⟨_,rfl⟩
   have hlgs2:=hlgs.out
   rw[hd6]at hlgs2
   obtain⟨va,vc,rfl⟩:=O7.own.form
   obtain⟨vn,hvn⟩ : ∃y,y=ps.length:=⟨_,rfl⟩
   have hown:=O7.own.1
   rw[<- hvn]at hown O7 hov hbo hpsl ⊢
   have hvm:vn<=2000000:=by rw[hpsl];unfold mapS;simp;omega
   have hbo2:∀g,(Value.slice va vn vc).ownBlock=some g->nb+1<=g/\g<sb:=fun g hg=>by have:=hbo g hg;have:=hsb.out;omega
   have hn7:nb+1<=w7.heap.size:=by have:=hb7.size;omega
   replace T7:=kH T7;replace hvn:=kH hvn;replace hown:=kH hown;replace O7:=kH O7;replace hlgs2:=kH hlgs2;replace hd6:=kH hd6;replace hn6:=kH hn6;replace hvb:=kH hvb;replace hbo2:=kH hbo2;replace hlg:=kH hlg
   clear hW7 hb7 hb46 hwr4 hb4 hb6 hb6s T6 S6 S6W s6_1 s6f_1 S SW s_0 s_1 hsS sf_1 hw4 cB hbo hszt hd7 hlgs hpsl O N R RW hw
   obtain⟨s7_0,s7_1⟩:=S7.box2;have hsS7:=bLt s7_0
   cases lg
   ·(go_wp2_with ((at_builtin;refine wpList_append_lies _ rfl _ _ _ rfl (nb+1) 119 iS _ 2 32 Tryz.underlying59 IS.out IS0.out IS1.out IS2.out rfl (by omega) (.slice va vn vc) (vn) (rowsOf subRow ps) rfl (own_below hown.out (by go_grown)) ⟨w7.heap.size,0,none⟩ 1 1 [.int .i64 k,.slice a6 n6 c6] rfl rfl (World.news_of_block (cs:=#[.int .i64 k,.slice a6 n6 c6]) (t:=119) (fr:=(0,0)) (heap_alloc_new' _ _ _ (by simp))) (by intro u hu;simp at hu;repeat' first|(subst hu;rfl)|rcases hu with hu|hu) (by omega) (by unfold maxLen;omega) (by omega) (by simp;omega) _ rfl ?_;intro g8 cap8 w8 hown8 hgrow8 hat8 hlt8));have hbA:Below w7.heap.size w7 (w7.alloc (.cells #[.int .i64 k,.slice a6 n6 c6] 119)):=(by go_grown);have hzA:(w7.alloc (.cells #[.int .i64 k,.slice a6 n6 c6] 119)).heap.size=w7.heap.size+1:=(by simp);have hs8:=hgrow8.size;have hsbv:=hsb.out;have O8:=O7.out.push (p:=⟨k,a6,n6,c6⟩) (q:=(k,subY [(n,u)] t)) hvn.out hbA hown8 hgrow8 (by rcases hat8 with h|h;exact .inl h;exact .inr (by omega)) rfl hp64.out (((T7.out.sl flatTyItem).mono GTyItem.good (by omega)).below GTyItem.good hbA) (fun g hg=>by have:=hvb.out g hg;omega) (fun g hg e=>by have:=hbo2.out g hg;have:=hvb.out g e;omega);rw[<- hmap.out]at O8;have k8:=kept_of hgrow8 (w:=w7) hbA;have N8:=N7.kept k8 (fun e=>by have:=hbo2.out _ e.symm;omega);have R8:=R7.kept k8 (fun e=>by have:=hbo2.out _ e.symm;omega);have R8W:=R7W.kept k8 (fun e=>by have:=hbo2.out _ e.symm;omega);have hw8:Below w.heap.size w w8:=below_grown2 (wr:=w7) (base:=w.heap.size) hgrow8 hbA hw7 hw7.size (own_lo hown.out (by omega));have hov8:∀g,(Value.slice (some ⟨g8,0,none⟩) (vn+1) cap8).ownBlock=some g->g≠nb:=(fun g hg=>by obtain rfl:g8=g:=(by simpa [Value.ownBlock] using hg);rcases hat8 with h|h;(have:=hbo2.out g8 h;omega);omega);clear hsbv;go_roundw)
    case rel=>exact⟨j+1,d6,_,_,rfl,by omega,by go_num,by rw[hd6.out],kH (by rw[hlgs2.out];rfl),kH O8,kH hov8,N8,R8,R8W,hw8,by omega⟩
    case measure=>simp[intOf];omega
   ·(go_wp2_with ((at_builtin;refine wpList_append_lies _ rfl _ _ _ rfl (nb+1) 119 iS _ 2 32 Tryz.underlying59 IS.out IS0.out IS1.out IS2.out rfl (by omega) (.slice va vn vc) (vn) (rowsOf subRow ps) rfl (own_below hown.out (by go_grown)) ⟨w7.heap.size,0,none⟩ 1 1 [.int .i64 k,.slice a6 n6 c6] rfl rfl (World.news_of_block (cs:=#[.int .i64 k,.slice a6 n6 c6]) (t:=119) (fr:=(0,0)) (heap_alloc_new' _ _ _ (by simp))) (by intro u hu;simp at hu;repeat' first|(subst hu;rfl)|rcases hu with hu|hu) (by omega) (by unfold maxLen;omega) (by omega) (by simp;omega) _ rfl ?_;intro g8 cap8 w8 hown8 hgrow8 hat8 hlt8));have hbA:Below w7.heap.size w7 (w7.alloc (.cells #[.int .i64 k,.slice a6 n6 c6] 119)):=(by go_grown);have hzA:(w7.alloc (.cells #[.int .i64 k,.slice a6 n6 c6] 119)).heap.size=w7.heap.size+1:=(by simp);have hs8:=hgrow8.size;have hsbv:=hsb.out;have O8:=O7.out.push (p:=⟨k,a6,n6,c6⟩) (q:=(k,subY [(n,u)] t)) hvn.out hbA hown8 hgrow8 (by rcases hat8 with h|h;exact .inl h;exact .inr (by omega)) rfl hp64.out (((T7.out.sl flatTyItem).mono GTyItem.good (by omega)).below GTyItem.good hbA) (fun g hg=>by have:=hvb.out g hg;omega) (fun g hg e=>by have:=hbo2.out g hg;have:=hvb.out g e;omega);rw[<- hmap.out]at O8;have k8:=kept_of hgrow8 (w:=w7) hbA;have N8:=N7.kept k8 (fun e=>by have:=hbo2.out _ e.symm;omega);have R8:=R7.kept k8 (fun e=>by have:=hbo2.out _ e.symm;omega);have R8W:=R7W.kept k8 (fun e=>by have:=hbo2.out _ e.symm;omega);have hw8:Below w.heap.size w w8:=below_grown2 (wr:=w7) (base:=w.heap.size) hgrow8 hbA hw7 hw7.size (own_lo hown.out (by omega));have hov8:∀g,(Value.slice (some ⟨g8,0,none⟩) (vn+1) cap8).ownBlock=some g->g≠nb:=(fun g hg=>by obtain rfl:g8=g:=(by simpa [Value.ownBlock] using hg);rcases hat8 with h|h;(have:=hbo2.out g8 h;omega);omega);clear hsbv;go_roundw)
    case rel=>exact⟨j+1,true,_,_,rfl,by omega,by go_num,by first|rfl|simp,kH (by rw[hlgs2.out];rfl),kH O8,kH hov8,N8,R8,R8W,hw8,by omega⟩
    case measure=>simp[intOf];omega
  ·obtain rfl:j=m:=by omega
   have hmt:σ.take j=σ:=List.take_of_length_le (by have:=hm.out;omega)
   have OE:=O.out
   rw[hmt]at OE
   have hlgE:=hlg.out
   have hbr:bindY σ n u=if lg=true then (4,[]) else (0,insS n u (mapS n u σ)):=by
    cases lg
    ·rw[hb0.out trivial hlgE.symm];rfl
    ·rw[hb4.out trivial hlgE.symm];rfl
   have hneM:∀y∈mapS n u σ,y.1≠n:=fun y hy=>by obtain⟨q,h1,rfl⟩:=mapS_mem hy;exact hne.out q h1
   have hml:(mapS n u σ).length=j:=by unfold mapS;rw[List.length_map];exact hm.out.symm
   rw[hmt]at hpsl
   obtain⟨τ,hτ⟩ : ∃τ,τ=mapS n u σ:=⟨_,rfl⟩
   rw[<- hτ]at OE hbr hneM hml hpsl
   obtain⟨va,vc,rfl⟩:=OE.own.form
   have hbase:=OE.own.base
   have hown:=OE.own.1
   obtain⟨vn,hvn⟩ : ∃y,y=ps.length:=⟨_,rfl⟩
   rw[<- hvn]at OE hbase hown hov hpsl ⊢
   have hvj:vn=j:=by omega
   have hkey:∀ (k:Nat) q,τ[k]? = some q->∃g,va=some ⟨g,0,none⟩/\wr.cell? ⟨g,k*2,none⟩=some (.int .i64 q.1):=fun k q hq=>by
    have hk:=(List.getElem?_eq_some_iff.1 hq).1
    obtain⟨g,cap,hv,q1,q2,q3,q4,q5,q6⟩:=own_cells hown (by omega)
    obtain⟨rfl,rfl⟩ : va=some ⟨g,0,none⟩/\vc=cap:=by injection hv with e1 e2 e3;exact⟨e1,e3⟩
    obtain⟨p,hp⟩ : ∃p,ps[k]? = some p:=⟨_,List.getElem?_eq_getElem (by omega)⟩
    obtain⟨h1,-,-⟩:=OE.rd k p q hp hq
    refine⟨g,rfl,?_⟩
    have:=q5 _ (.int .i64 p.k) (flatSubV.get (j:=0) hp rfl)
    rw[Nat.zero_add,Nat.add_zero,h1]at this
    exact this
   have hbb:∀g,(Value.slice va vn vc).ownBlock=some g->nb+1<=g/\g<wr.heap.size:=hbase
   have hvm:vn<=1000000:=by omega
   have hU8:=hU.out wr hw
   obtain⟨w8,rfl⟩ : ∃W,W=wr:=⟨_,rfl⟩
   replace hkey:=kH hkey;replace hbb:=kH hbb;replace hvn:=kH hvn;replace hvj:=kH hvj;replace OE:=kH OE;replace hU8:=kH hU8;replace hneM:=kH hneM;replace hml:=kH hml;replace hbr:=kH hbr;replace hτ:=kH hτ
   clear hbase hown hlgE hmt hpsl O hlg hov hb0 hb4 hlt
   obtain⟨n_0,n_1⟩:=N.box2;have hsN:=bLt n_0;obtain⟨r_0,r_1,r_2,r_3,r_4,r_5⟩:=R.box6;have hsR:=bLt r_0
   go_wp2_with fail
   go_loopw [12] (fun kv wq=>∃ (k:Nat),k<=j/\kv=.int .i64 k/\wq=w8/\Hid (∀y∈τ.take k,y.1<n)) (fun kv _=>j-(intOf kv).toNat)
   case atStart=>exact⟨0,by omega,rfl,rfl,kH (fun y hy=>by simp at hy)⟩
   case round=>
    obtain⟨k,hk,rfl,rfl,hL⟩:=hrel
    have hfin:=fun(hR:∀y,τ[k]? = some y->n<y.1)=>ins_at (u:=u) hL.out hR
    have hbA:Below wr.heap.size wr (wr.alloc (.cells #[.int .i64 n,.slice ua un uc] 119)):=by go_grown
    have hzA:(wr.alloc (.cells #[.int .i64 n,.slice ua un uc] 119)).heap.size=wr.heap.size+1:=by simp
    have cI:=insert_c ps ⟨n,ua,un,uc⟩ k (by have:=hvn.out;have:=hvj.out;omega) (by have:=hvn.out;omega) hn64 (nb+1) wr.heap.size (.slice va vn vc) (wr.alloc (.cells #[.int .i64 n,.slice ua un uc] 119)) (OE.out.own.below hbA) (by omega) (heap_alloc_new' _ _ _ rfl) (fun e=>by have:=hbb.out _ e;omega)
    unfold InsPost at cI
    replace cI:=kH cI;replace hfin:=kH hfin;replace hzA:=kH hzA
    by_cases hlt2:k<j
    ·obtain⟨q,hq⟩ : ∃q,τ[k]? = some q:=⟨_,List.getElem?_eq_getElem (by have:=hml.out;omega)⟩
     obtain⟨g,hva,hc⟩:=hkey.out k q hq
     have hqn:=hneM.out q (List.mem_of_getElem? hq)
     subst hva
     have hkv:k<vn:=by have:=hvj.out;omega
     by_cases hqlt:q.1<n
     ·have d1:decide (q.1<n)=true:=decide_eq_true hqlt
      go_wp2_with fail
      go_roundw
      case rel=>exact⟨k+1,by omega,by go_num,by first|rfl|trivial,kH (by
       rw[take_snoc' hq]
       intro y hy
       rcases List.mem_append.1 hy with h|h
       ·exact hL.out y h
       ·simp at h;rw[h];exact hqlt)⟩
      case measure=>simp[intOf];omega
     ·have d1:decide (q.1<n)=false:=decide_eq_false hqlt
      have hi:=hfin.out fun y hy=>by rw[hq]at hy;obtain rfl:=Option.some.inj hy;omega
      (replace hi:=kH hi;clear hkey hneM hml hfin;cases lg);all_goals (go_wp2_with (go_at_call 174;(with_reducible refine(cI.out).mono ?_);rintro e w9 ⟨g9,cap9,rfl,O9,K9,B9,at9⟩;have R9:=(R.below hbA).kept K9 (fun e=>by have:=hbb.out _ e.symm;omega);have R9W:=(RW.below hbA).kept K9 (fun e=>by have:=hbb.out _ e.symm;omega);have r9_2:=R9.box6.2.2.1;have r9f_2:=R9W.frz 2 (by omega);replace O9:=kH O9;replace K9:=kH K9;replace B9:=kH B9;replace at9:=kH at9));have F9:IFr b w w9:=⟨(hw.mono (Nat.le_of_lt hbw)).trans ((hbA.mono (by omega)).trans (B9.out.mono (by omega))),fun q h1 h2=>(K9.out q (by have:=hzA.out;omega) (fun e=>by have:=hbb.out q e.symm;omega)).trans (((hw.trans (hbA.mono hz')).block q h1))⟩;have SL9:=own_ins (q:=(n,u)) (OE.out.below hbA) (by omega) (by have:=hvn.out;have:=hvj.out;omega) rfl (hU8.out.below GTyItem.good hbA) (fun g hg e=>by have:=hbb.out g hg;have:=hubk.out g e;omega) O9.out K9.out;rw[<- hi.out]at SL9;all_goals (refine hpost.out _ (.slice (some ⟨g9,0,none⟩) (ps.length+1) cap9) (_,_) (R9.putAt (j:=2) (by simp) _) (R9W.set 2 _) ⟨_,_,_,rfl⟩ hbr.out ?_ (F9.set 2 _));all_goals first|(intro h;cases h;done)|(intro _;exact(((IFr.refl b w9).set 2 _).sl SubR.good SL9))
    ·have hi:=hfin.out fun y hy=>by have:=(List.getElem?_eq_some_iff.1 hy).1;have:=hml.out;omega
     have hkv : ¬ k<vn:=by have:=hvj.out;omega
     have hdk:decide ((k:Int)<(vn:Int))=false:=decide_eq_false (by omega)
     (replace hi:=kH hi;clear hkey hneM hml hfin;cases lg);all_goals (go_wp2_with (go_at_call 174;(with_reducible refine(cI.out).mono ?_);rintro e w9 ⟨g9,cap9,rfl,O9,K9,B9,at9⟩;have R9:=(R.below hbA).kept K9 (fun e=>by have:=hbb.out _ e.symm;omega);have R9W:=(RW.below hbA).kept K9 (fun e=>by have:=hbb.out _ e.symm;omega);have r9_2:=R9.box6.2.2.1;have r9f_2:=R9W.frz 2 (by omega);replace O9:=kH O9;replace K9:=kH K9;replace B9:=kH B9;replace at9:=kH at9));have F9:IFr b w w9:=⟨(hw.mono (Nat.le_of_lt hbw)).trans ((hbA.mono (by omega)).trans (B9.out.mono (by omega))),fun q h1 h2=>(K9.out q (by have:=hzA.out;omega) (fun e=>by have:=hbb.out q e.symm;omega)).trans (((hw.trans (hbA.mono hz')).block q h1))⟩;have SL9:=own_ins (q:=(n,u)) (OE.out.below hbA) (by omega) (by have:=hvn.out;have:=hvj.out;omega) rfl (hU8.out.below GTyItem.good hbA) (fun g hg e=>by have:=hbb.out g hg;have:=hubk.out g e;omega) O9.out K9.out;rw[<- hi.out]at SL9;all_goals (refine hpost.out _ (.slice (some ⟨g9,0,none⟩) (ps.length+1) cap9) (_,_) (R9.putAt (j:=2) (by simp) _) (R9W.set 2 _) ⟨_,_,_,rfl⟩ hbr.out ?_ (F9.set 2 _));all_goals first|(intro h;cases h;done)|(intro _;exact(((IFr.refl b w9).set 2 _).sl SubR.good SL9))
end Go.Proofs.YtkikkfjmggobpaaGreat
