/- Parts of the proof, merged: To, FtInt. -/
import Derived.Test.YtkikkfjmggobpaaGreatRows
import Derived.OwnWalk
import Derived.Test.YtkikkfjmggobpaaGreatDt6
namespace Go.Proofs.YtkikkfjmggobpaaGreat
open Go.RowKit
set_option maxRecDepth 100000
set_option maxHeartbeats 16000000
set_option linter.unusedVariables false
set_option linter.unusedSimpArgs false
attribute [local go_sem] Ext.cell
theorem info_IntS:(Tryz.prog.info? 3).map (fun i=>(i.zero,i.size,i.bytes))=some (some (.int .i64 0),1,8):=by kernel_rfl
theorem info_DNodeS:(Tryz.prog.info? 109).map (fun i=>(i.zero,i.size,i.bytes))=some (some (.agg #[.int .i64 0,.int .i64 0,.string ⟨#[]⟩,.slice none 0 0]),4,56):=by kernel_rfl
theorem info_PNodeS:(Tryz.prog.info? 220).map (fun i=>(i.zero,i.size,i.bytes))=some (some (.agg #[.int .i64 0,.int .i64 0,.string ⟨#[]⟩,.slice none 0 0]),4,56):=by kernel_rfl
theorem info_PatS:(Tryz.prog.info? 177).map (fun i=>(i.zero,i.size,i.bytes))=some (some (.agg #[.slice none 0 0]),1,24):=by kernel_rfl
theorem info_TyItemS:(Tryz.prog.info? 107).map (fun i=>(i.zero,i.size,i.bytes))=some (some (.agg #[.int .i64 0,.string ⟨#[]⟩,.int .i64 0]),3,32):=by kernel_rfl
theorem info_ConS:(Tryz.prog.info? 105).map (fun i=>(i.zero,i.size,i.bytes))=some (some (.agg #[.string ⟨#[]⟩,.bool false,.slice none 0 0]),3,48):=by kernel_rfl
theorem info_TypeS:(Tryz.prog.info? 101).map (fun i=>(i.zero,i.size,i.bytes))=some (some (.agg #[.string ⟨#[]⟩,.int .i64 0,.slice none 0 0]),3,48):=by kernel_rfl
theorem info_NodeS:(Tryz.prog.info? 123).map (fun i=>(i.zero,i.size,i.bytes))=some (some (.agg #[.int .i64 0,.int .i64 0,.int .i64 0,.string ⟨#[]⟩,.slice none 0 0,.slice none 0 0]),6,88):=by kernel_rfl
theorem toIntS_o (x:List Int) (u:Value) (lo:Nat) (hlen:(x.length:Int)<=1048576) (w:World) (hx:Sl IntR 1 lo w u x) :
  Calls Tryz.prog 99 #[u] w fun e w'=>∃v bs,e=.returned v/\SlO 3 1 (FlatO intRow I64) bs w' v x/\bs.Nodup/\(∀b∈bs,w.heap.size<=b)/\Below w.heap.size w w':=by
 obtain⟨a1,c1,rfl,l1,m1,hh⟩:=hx
 obtain⟨n,hn⟩ : ∃n,n=x.length:=⟨_,rfl⟩
 have hlen1:x.length<=1048576:=by omega
 clear hlen
 rw[<- hn]at l1 hlen1 ⊢
 have X1:=kH hn
 clear hn
 obtain⟨i0,hi,hi0,hi1,hi2⟩:=info_parts info_IntS
 have I:=kH hi;have I0:=kH hi0;have I1:=kH hi1;have I2:=kH hi2
 clear hi hi0 hi1 hi2
 go_enter Tryz.func99,Tryz.ntmps99
 go_wp2_with (at_make;refine wpList_make_full _ rfl _ _ _ rfl w.heap.size 3 i0 _ 1 Tryz.underlying91 I.out I0.out I1.out _ _ _ _ n rfl rfl rfl rfl (by rw[I2.out];omega) (by unfold maxLen;omega) (Nat.le_refl _) ?_;intro w1 hO hgw)
 have hb1:Below w.heap.size w w1:=(Below.refl w.heap.size w).grown (row:=none) hgw (Nat.le_refl _) (by simp)
 have hs1:w.heap.size<w1.heap.size:=(own_base hO _ rfl).2
 have O1:FillO 3 1 (FlatO intRow I64) w.heap.size w1 w.heap.size n 0 [] x:=FillO.made hO x
 replace O1:=kH O1
 clear hO hgw
 go_loopw [4] (fun i wr=>∃ (k:Nat) (ps:List (List Nat)),k<=n/\i=.int .i64 k/\Below w.heap.size w wr/\w.heap.size+1<=wr.heap.size/\Hid (FillO 3 1 (FlatO intRow I64) w.heap.size wr w.heap.size n k ps x)/\Hid (ps.flatten.Nodup)/\Hid (∀b∈ps.flatten,w.heap.size+1<=b/\b<wr.heap.size)) (fun i _=>n-(intOf i).toNat)
 case atStart=>exact⟨0,[],by omega,rfl,hb1,by omega,O1,List.nodup_nil,fun b h=>by cases h⟩
 case round=>
  clear hs1 hb1 O1
  obtain⟨k,ps,hk,rfl,hw,hz,hO,hN,hL⟩:=hrel
  by_cases hlt:k<n
  ·obtain⟨b1,o1,p,s1,_,rfl,P1,q1,r1⟩:=(hh.below IntR.good hw).get X1 hlt
   have Q1:=q1
   obtain⟨rfl,hwf0⟩:=q1
   have R1:wr.cell? ⟨b1,o1+k,none⟩=some (.int .i64 p):=(by simpa using r1 0 _ rfl)
   clear r1
   have hA2:=(hO.out.arr (by omega)).2.2;have hO2:=hO;have hw2:=hw;have hz2:wr.heap.size<=wr.heap.size:=Nat.le_refl _
   obtain⟨d0,e0,f0⟩:=hA2 (k) (by omega)
   go_wp2
   have hl2' : ∀b∈([] : List Nat),b<wr.heap.size:=(fun b h=>by cases h)
   have hf2' : ∀b∈([] : List Nat),wr.heap.size<=b:=(fun b h=>by cases h)
   go_roundw
   case rel=>exact⟨k+1,ps ++ [[]],by omega,by go_num,hw2.trans (below_storeRow w.heap.size [.int .i64 p] wr (k)),Nat.le_trans hz (Nat.le_trans hz2 (Nat.le_of_eq (size_storeRow w.heap.size [.int .i64 p] wr (k)).symm)),
    (hO2.out.step (flatO_ok flatInt) hlt (off:=k) (r:=[.int .i64 p]) (by omega) P1.out rfl ⟨rfl,rfl,hwf0⟩ (fun h=>by have:=hL.out _ h;omega) (fun h=>by have:=hf2' _ h;omega)),
    by show(ps ++ [[]]).flatten.Nodup;rw[List.flatten_append,List.flatten_singleton];exact List.nodup_append.2 ⟨hN.out,List.nodup_nil,fun b h b2 h2 e=>by subst e;have:=hL.out _ h;have:=hf2' _ h2;omega⟩,
    fun b h=>by
     rw[List.flatten_append,List.flatten_singleton]at h
     rcases List.mem_append.1 h with h|h
     ·have:=hL.out _ h;exact⟨this.1,Nat.lt_of_lt_of_le this.2 (Nat.le_trans hz2 (Nat.le_of_eq (size_storeRow w.heap.size [.int .i64 p] wr (k)).symm))⟩
     ·have h1:=hf2' _ h;have h2:=hl2' _ h;exact⟨by omega,Nat.lt_of_lt_of_le h2 (Nat.le_of_eq (size_storeRow w.heap.size [.int .i64 p] wr (k)).symm)⟩⟩
   case measure=>simp[intOf];omega
  ·go_wp2
   go_returns
   obtain rfl:k=n:=by omega
   exact⟨_,_,rfl,(hO.out.full X1.out).slO,List.nodup_cons.2 ⟨fun h=>by have:=(hL.out _ h).1;dsimp only at this;omega,hN.out⟩,fun b h=>by
    rcases List.mem_cons.1 h with h|h
    ·dsimp only at h;omega
    ·have:=(hL.out _ h).1;omega,hw⟩
end Go.Proofs.YtkikkfjmggobpaaGreat
