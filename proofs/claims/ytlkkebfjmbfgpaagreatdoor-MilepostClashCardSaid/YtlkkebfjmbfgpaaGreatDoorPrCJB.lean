import Derived.Test.YtlkkebfjmbfgpaaGreatDoorPrCJA
namespace Go.Proofs
open Go Go.RowKit
set_option maxRecDepth 100000 in
theorem Tryz.heapUp0 (v:Value) (w:World):Calls Tryz.prog 237 #[v,.int .i64 0] w fun e w'=>e=.returned (.tuple #[])∧w'=w:=by
  go_enter Tryz.func237,Tryz.ntmps237
  go_wp2
  refine wp_loop_rounds 1 ?_
  rw [rounds_succ]
  go_wp2
  go_end0
  exact ⟨rfl,rfl⟩
set_option maxRecDepth 100000 in
theorem Tryz.heapDown0 (v:Value) (w:World):Calls Tryz.prog 238 #[v,.int .i64 0,.int .i64 0] w fun e w'=>e=.returned (.bool false)∧w'=w:=by
  go_enter Tryz.func238,Tryz.ntmps238
  go_wp2
  refine wp_loop_rounds 1 ?_
  rw [rounds_succ]
  go_wp2
  exact bodyPost_ret (results_tmp rfl _ _ _) rfl ⟨rfl,rfl⟩
theorem Tryz.mRowPush (p:Option Addr) (W:World):Sem.run Tryz.prog (Go.method 557 300 (.pointer p) "Push") W=.ok (372,.pointer p) W:=by kernel_rfl
theorem Tryz.mRowPop (p:Option Addr) (W:World):Sem.run Tryz.prog (Go.method 557 300 (.pointer p) "Pop") W=.ok (371,.pointer p) W:=by kernel_rfl
theorem Tryz.mRowVia1 (p:Addr) (W:World):Sem.run Tryz.prog (Go.method 557 300 (.pointer (some p)) "Len") W=Sem.run Tryz.prog (do pure (199,← receiverAt 300 (.val (.pointer (some p))) false (some (("Len".splitOn ".").getLastD "Len")))) W:=by kernel_rfl
theorem Tryz.mRowVia2 (p:Addr) (W:World):Sem.run Tryz.prog (receiverAt 300 (.val (.pointer (some p))) false (some (("Len".splitOn ".").getLastD "Len"))) W=Sem.run Tryz.prog (loadVar 302 p) W:=by kernel_rfl
theorem Tryz.mRowSwap1 (p:Addr) (W:World):Sem.run Tryz.prog (Go.method 557 300 (.pointer (some p)) "Swap") W=Sem.run Tryz.prog (do pure (373,← receiverAt 300 (.val (.pointer (some p))) false (some (("Swap".splitOn ".").getLastD "Swap")))) W:=by kernel_rfl
theorem Tryz.mRowSwap2 (p:Addr) (W:World):Sem.run Tryz.prog (receiverAt 300 (.val (.pointer (some p))) false (some (("Swap".splitOn ".").getLastD "Swap"))) W=Sem.run Tryz.prog (loadVar 302 p) W:=by kernel_rfl
theorem Tryz.mRowLoad (p:Addr) (W:World) (v:Value) (h:W.cell? p=some v):Sem.run Tryz.prog (loadVar 302 p) W=.ok v W:=by
  simp [loadVar,isAgg,underlying,Tryz.underlying302,h,Result.andThen]
theorem Tryz.mRowLen (p:Addr) (W:World) (v:Value) (h:W.cell? p=some v):Sem.run Tryz.prog (Go.method 557 300 (.pointer (some p)) "Len") W=.ok (199,v) W:=by
  rw [Tryz.mRowVia1,Sem.run_bind,Tryz.mRowVia2,Tryz.mRowLoad p W v h]; rfl
theorem Tryz.mRowSwap (p:Addr) (W:World) (v:Value) (h:W.cell? p=some v):Sem.run Tryz.prog (Go.method 557 300 (.pointer (some p)) "Swap") W=.ok (373,v) W:=by
  rw [Tryz.mRowSwap1,Sem.run_bind,Tryz.mRowSwap2,Tryz.mRowLoad p W v h]; rfl
theorem Tryz.asRunner (v:Value) (W:World):Sem.run Tryz.prog (Instr.typeAssert (.iface 305 v) 20 305 true) W=.ok (.tuple #[v,.bool true]) W:=by kernel_rfl
theorem Tryz.info305:∃ i,Tryz.prog.info? 305=some i∧i.zero=some (.agg #[.int .i64 0,.int .i64 0,.string ⟨#[]⟩])∧i.size=3∧i.bytes=32:=by
  have h:(Tryz.prog.info? 305).map (fun i=>(i.zero,i.size,i.bytes))=some (some (.agg #[.int .i64 0,.int .i64 0,.string ⟨#[]⟩]),3,32):=by kernel_rfl
  obtain ⟨i,hi,he⟩:=Option.map_eq_some_iff.1 h
  simp only [Prod.mk.injEq] at he
  exact ⟨i,hi,he.1,he.2.1,he.2.2⟩
theorem Tryz.run_append_row (W:World) (z:Addr) (at_ wins:Int) (key:ByteArray) (g:Nat) (h0:W.cell? ⟨g,0,none⟩=some (.int .i64 at_)) (h1:W.cell? ⟨g,1,none⟩=some (.int .i64 wins)) (h2:W.cell? ⟨g,2,none⟩=some (.string key)) :
    ∃ c W',(Builtin.append_ #[302,302] 302 #[.slice (some z) 0 0,.slice (some ⟨g,0,none⟩) 1 1]).run Tryz.prog W=.ok (.slice (some ⟨W.heap.size,0,none⟩) 1 c) W'∧1≤c ∧
      W'.cell? ⟨W.heap.size,0,none⟩=some (.int .i64 at_)∧W'.cell? ⟨W.heap.size,1,none⟩=some (.int .i64 wins)∧W'.cell? ⟨W.heap.size,2,none⟩=some (.string key)∧W.grownBy W' none∧W'.heap.size=W.heap.size+1∧∀ i,W'.frozen? ⟨W.heap.size,i,none⟩=false:=by
  obtain ⟨i,hi,hz,hs,hb⟩:=Tryz.info305
  have:=run_append_grow (P:=Tryz.prog) W 302 302 305 i _ Tryz.underlying302 hi hz z 0 0 [] (by simp) (fun j v h=>by simp at h) ⟨g,0,none⟩ 1 1 [.int .i64 at_,.int .i64 wins,.string key] (by rw [hs]; rfl) (fun j v h=>by
    match j,h with
    | 0,h=>cases h; exact h0
    | 1,h=>cases h; exact h1
    | 2,h=>cases h; exact h2) (by omega) (by decide) (by rw [hb]; decide)
  refine ⟨_,_,this,grownCap_ge W 1 0 305,?_,?_,?_,(grownBy_drew W none).trans (grownBy_alloc _ _ none),by simp,fun i=>World.frozen?_alloc_at _ _ _ _ (by simp)⟩
  · rw [World.cell?_alloc_at _ _ _ _ (by simp)]; simp [Array.getElem?_append]
  · rw [World.cell?_alloc_at _ _ _ _ (by simp)]; simp [Array.getElem?_append]
  · rw [World.cell?_alloc_at _ _ _ _ (by simp)]; simp [Array.getElem?_append]
set_option maxRecDepth 100000 in
theorem Tryz.rowPush (r z:Nat) (at_ wins:Int) (key:ByteArray) (w:World) (h0:w.cell? ⟨r,0,none⟩=some (.slice (some ⟨z,0,none⟩) 0 0)) (hf:w.frozen? ⟨r,0,none⟩=false) :
    Calls Tryz.prog 372 #[.pointer (some ⟨r,0,none⟩),.iface 305 (.agg #[.int .i64 at_,.int .i64 wins,.string key])] w fun e w'=>e=.returned (.tuple #[])∧∃ n c,w'.cell? ⟨r,0,none⟩=some (.slice (some ⟨n,0,none⟩) 1 c)∧1≤c ∧
      w'.cell? ⟨n,0,none⟩=some (.int .i64 at_)∧w'.cell? ⟨n,1,none⟩=some (.int .i64 wins)∧w'.cell? ⟨n,2,none⟩=some (.string key)∧w.heap.size≤n∧w.grownBy w' (some r)∧(∀ i,w'.frozen? ⟨n,i,none⟩=false)∧w'.frozen? ⟨r,0,none⟩=false:=by
  have hr:=Tryz.asRunner
  go_enter Tryz.func372,Tryz.ntmps372
  go_wp2
  have hlt:r < w.heap.size:=World.block_lt_of_cell? w _ h0
  have hsz:(w.alloc (Obj.cells #[.int .i64 at_,.int .i64 wins,.string key] 305)).heap.size=w.heap.size+1:=by simp
  obtain ⟨W1,hW1⟩:∃ W1,W1=((w.alloc (Obj.cells #[.int .i64 at_,.int .i64 wins,.string key] 305)).alloc (Obj.cells #[.int .i64 at_,.int .i64 wins,.string key] 305)).drew:=⟨_,rfl⟩
  have hr1:W1.cell? ⟨r,0,none⟩=some (.slice (some ⟨z,0,none⟩) 0 0):=by rw [hW1]; go_simp
  have hS5:W1.cell? ⟨w.heap.size,0,none⟩=some (.int .i64 at_)∧W1.cell? ⟨w.heap.size,1,none⟩=some (.int .i64 wins)∧W1.cell? ⟨w.heap.size,2,none⟩=some (.string key):=by
    rw [hW1]; go_simp
  have hz1:W1.heap.size=w.heap.size+2:=by rw [hW1]; simp
  have hg1:w.grownBy W1 (some r):=by rw [hW1]; exact ((grownBy_alloc w _ _).trans (grownBy_alloc _ _ _)).trans (grownBy_drew _ _)
  obtain ⟨c,W2,happ,hc1,d0,d1,d2,hg2,hz2,hfn⟩:=Tryz.run_append_row W1 ⟨z,0,none⟩ at_ wins key (w.heap.size+1) (by rw [hW1]; go_simp) (by rw [hW1]; go_simp) (by rw [hW1]; go_simp)
  have hr2:W2.cell? ⟨r,0,none⟩=some (.slice (some ⟨z,0,none⟩) 0 0):=hg2.cell hr1 (by simp)
  have hf2:W2.frozen? ⟨r,0,none⟩=false:=by
    rw [World.frozen?_of_block (w:=W1) (hg2.block r (by omega) (by simp)),World.frozen?_of_block (w:=w)]; exact hf
    rw [hW1]
    exact ((Go.MapKept.heap_alloc _ _).2 r (by omega)).trans ((Go.MapKept.heap_alloc _ _).2 r hlt)
  have hS6:W2.cell? ⟨w.heap.size,0,none⟩=some (.int .i64 at_)∧W2.cell? ⟨w.heap.size,1,none⟩=some (.int .i64 wins)∧W2.cell? ⟨w.heap.size,2,none⟩=some (.string key) :=
    ⟨hg2.cell hS5.1 (by simp),hg2.cell hS5.2.1 (by simp),hg2.cell hS5.2.2 (by simp)⟩
  have hne:∀ i j,(⟨r,i,none⟩:Addr)≠⟨W1.heap.size,j,none⟩:=fun i j e=>by cases e; omega
  have hne2:∀ i j,(⟨r,i,none⟩:Addr)≠⟨w.heap.size,j,none⟩:=fun i j e=>by cases e; omega
  refine wp_region_held_drew (S:=fun W=>W.cell? ⟨w.heap.size,0,none⟩=some (.int .i64 at_)∧W.cell? ⟨w.heap.size,1,none⟩=some (.int .i64 wins)∧W.cell? ⟨w.heap.size,2,none⟩=some (.string key)) (by kernel_rfl) (by go_simp) fun hS=>?_
  refine wpAnyH_take (i:=0) (v:=.pointer (some ⟨r,0,none⟩)) (fuel:=8) rfl (by kernel_rfl) (by kernel_rfl) (by kernel_rfl) (fun _ _ _ h=>h) (.inl ⟨rfl,fun W hW=>by go_simp⟩) hS ?_
  refine wpAnyH_take (i:=1) (v:=.pointer (some ⟨r,0,none⟩)) (fuel:=7) rfl (by kernel_rfl) (by kernel_rfl) (by kernel_rfl) (fun _ _ _ h=>h) (.inl ⟨rfl,fun W hW=>by go_simp⟩) hS ?_
  refine wpAnyH_take (i:=2) (v:=.pointer (some ⟨r,0,none⟩)) (fuel:=6) rfl (by kernel_rfl) (by kernel_rfl) (by kernel_rfl) (fun _ _ _ h=>h) (.inl ⟨rfl,fun W hW=>by go_simp⟩) hS ?_
  refine wpAnyH_take (i:=4) (v:=.agg #[.int .i64 at_,.int .i64 wins,.string key]) (fuel:=5) rfl (by kernel_rfl) (by kernel_rfl) (by kernel_rfl) (fun _ _ _ h=>h) (.inl ⟨rfl,fun W hW=>by obtain ⟨c1,c2,c3⟩:=hW; go_simp⟩) hS ?_
  refine wpAnyH_ready (rs:=[3,5]) (by kernel_rfl) (by simp) ?_
  refine AllReadyH.cons rfl (fun K hK=>?_) (AllReadyH.cons rfl (fun K hK=>?_) AllReadyH.nil)
  · rw [if_pos (by kernel_rfl)]
    go_simp
    refine hK _ _ hS fun _=>?_
    clear hK K
    refine wpAnyH_ready (rs:=[5]) (by kernel_rfl) (by simp) ?_
    refine AllReadyH.cons rfl (fun K hK=>?_) AllReadyH.nil
    rw [if_pos (by kernel_rfl)]
    go_simp
    rw [← hW1]
    refine hK _ _ hS5 fun _=>?_
    clear hK K
    clear hW1
    refine wpAnyH_ready (rs:=[6]) (by kernel_rfl) (by simp) ?_
    refine AllReadyH.cons rfl (fun K hK=>?_) AllReadyH.nil
    rw [if_pos (by kernel_rfl)]
    refine wp_append rfl rfl rfl happ ?_
    refine hK _ _ hS6 fun _=>?_
    clear hK K
    refine wpAnyH_take (i:=7) (v:=.pointer (some ⟨r,0,none⟩)) (fuel:=1) rfl (by kernel_rfl) (by kernel_rfl) (by kernel_rfl) (fun _ _ _ h=>h) (.inl ⟨rfl,fun W hW=>by go_simp⟩) hS6 ?_
    refine wpAnyH_ready (rs:=[8]) (by kernel_rfl) (by simp) ?_
    refine AllReadyH.cons rfl (fun K hK=>?_) AllReadyH.nil
    rw [if_pos (by kernel_rfl)]
    go_simp
    refine hK _ _ ⟨?_,?_,?_⟩ fun _=>?_
    · rw [World.cell?_setCell_other _ _ _ _ (hne2 0 0)]; exact hS6.1
    · rw [World.cell?_setCell_other _ _ _ _ (hne2 0 1)]; exact hS6.2.1
    · rw [World.cell?_setCell_other _ _ _ _ (hne2 0 2)]; exact hS6.2.2
    clear hK K
    refine wpAnyH_done (by kernel_rfl) ?_ _
    go_wp2
    go_end0
    refine ⟨rfl,W1.heap.size,c,?_,hc1,?_,?_,?_,by omega,?_,fun i=>?_,?_⟩
    · rw [hz1]; exact World.cell?_setCell_same _ _ _ hr2
    · rw [World.cell?_setCell_other _ _ _ _ (hne 0 0)]; exact d0
    · rw [World.cell?_setCell_other _ _ _ _ (hne 0 1)]; exact d1
    · rw [World.cell?_setCell_other _ _ _ _ (hne 0 2)]; exact d2
    · exact (hg1.trans (grownBy_any hg2 _)).trans (grownBy_set _ _ _ _)
    · rw [World.frozen?_setCell]; exact hfn i
    · rw [World.frozen?_setCell]; exact hf2
  · rw [if_pos (by kernel_rfl)]
    go_simp
    rw [← hW1]
    clear hW1
    refine hK _ _ hS5 fun _=>?_
    clear hK K
    refine wpAnyH_ready (rs:=[3]) (by kernel_rfl) (by simp) ?_
    refine AllReadyH.cons rfl (fun K hK=>?_) AllReadyH.nil
    rw [if_pos (by kernel_rfl)]
    go_simp
    refine hK _ _ hS5 fun _=>?_
    clear hK K
    refine wpAnyH_ready (rs:=[6]) (by kernel_rfl) (by simp) ?_
    refine AllReadyH.cons rfl (fun K hK=>?_) AllReadyH.nil
    rw [if_pos (by kernel_rfl)]
    refine wp_append rfl rfl rfl happ ?_
    refine hK _ _ hS6 fun _=>?_
    clear hK K
    refine wpAnyH_take (i:=7) (v:=.pointer (some ⟨r,0,none⟩)) (fuel:=1) rfl (by kernel_rfl) (by kernel_rfl) (by kernel_rfl) (fun _ _ _ h=>h) (.inl ⟨rfl,fun W hW=>by go_simp⟩) hS6 ?_
    refine wpAnyH_ready (rs:=[8]) (by kernel_rfl) (by simp) ?_
    refine AllReadyH.cons rfl (fun K hK=>?_) AllReadyH.nil
    rw [if_pos (by kernel_rfl)]
    go_simp
    refine hK _ _ ⟨?_,?_,?_⟩ fun _=>?_
    · rw [World.cell?_setCell_other _ _ _ _ (hne2 0 0)]; exact hS6.1
    · rw [World.cell?_setCell_other _ _ _ _ (hne2 0 1)]; exact hS6.2.1
    · rw [World.cell?_setCell_other _ _ _ _ (hne2 0 2)]; exact hS6.2.2
    clear hK K
    refine wpAnyH_done (by kernel_rfl) ?_ _
    go_wp2
    go_end0
    refine ⟨rfl,W1.heap.size,c,?_,hc1,?_,?_,?_,by omega,?_,fun i=>?_,?_⟩
    · rw [hz1]; exact World.cell?_setCell_same _ _ _ hr2
    · rw [World.cell?_setCell_other _ _ _ _ (hne 0 0)]; exact d0
    · rw [World.cell?_setCell_other _ _ _ _ (hne 0 1)]; exact d1
    · rw [World.cell?_setCell_other _ _ _ _ (hne 0 2)]; exact d2
    · exact (hg1.trans (grownBy_any hg2 _)).trans (grownBy_set _ _ _ _)
    · rw [World.frozen?_setCell]; exact hfn i
    · rw [World.frozen?_setCell]; exact hf2
set_option maxRecDepth 100000 in
theorem Tryz.rowSwap0 (n c:Nat) (at_ wins:Int) (key:ByteArray) (w:World) (d0:w.cell? ⟨n,0,none⟩=some (.int .i64 at_)) (d1:w.cell? ⟨n,1,none⟩=some (.int .i64 wins)) (d2:w.cell? ⟨n,2,none⟩=some (.string key)) (hf:∀ i,w.frozen? ⟨n,i,none⟩=false) :
    Calls Tryz.prog 373 #[.slice (some ⟨n,0,none⟩) 1 c,.int .i64 0,.int .i64 0] w fun e w'=>e=.returned (.tuple #[])∧w'.cell? ⟨n,0,none⟩=some (.int .i64 at_)∧w'.cell? ⟨n,1,none⟩=some (.int .i64 wins)∧w'.cell? ⟨n,2,none⟩=some (.string key)∧w.grownBy w' (some n)∧∀ i,w'.frozen? ⟨n,i,none⟩=false:=by
  go_enter Tryz.func373,Tryz.ntmps373
  go_wp2
  go_region
  all_goals go_wp2
  all_goals go_end0
  all_goals refine ⟨rfl,(by rw [cell_drew]; refine cell_set (cell_set (cell_set (cell_set (cell_set (cell_set d0 ?_) ?_) ?_) ?_) ?_) ?_ <;> (intro e; first | rfl | cases e)),(by rw [cell_drew]; refine cell_set (cell_set (cell_set (cell_set (cell_set (cell_set d1 ?_) ?_) ?_) ?_) ?_) ?_ <;> (intro e; first | rfl | cases e)),(by rw [cell_drew]; refine cell_set (cell_set (cell_set (cell_set (cell_set (cell_set d2 ?_) ?_) ?_) ?_) ?_) ?_ <;> (intro e; first | rfl | cases e)),(((((((grownBy_set _ _ _ _).trans (grownBy_set _ _ _ _)).trans (grownBy_set _ _ _ _)).trans (grownBy_set _ _ _ _)).trans (grownBy_set _ _ _ _)).trans (grownBy_set _ _ _ _)).trans (grownBy_drew _ _)),fun i=>by rw [frozen_drew]; simp only [World.frozen?_setCell]; exact hf i⟩
set_option maxRecDepth 100000 in
theorem Tryz.rowPop (r n c:Nat) (hc:1≤c) (at_ wins:Int) (key:ByteArray) (w:World) (h0:w.cell? ⟨r,0,none⟩=some (.slice (some ⟨n,0,none⟩) 1 c)) (hf:w.frozen? ⟨r,0,none⟩=false) (d0:w.cell? ⟨n,0,none⟩=some (.int .i64 at_)) (d1:w.cell? ⟨n,1,none⟩=some (.int .i64 wins)) (d2:w.cell? ⟨n,2,none⟩=some (.string key)) :
    Calls Tryz.prog 371 #[.pointer (some ⟨r,0,none⟩)] w fun e w'=>e=.returned (.iface 305 (.agg #[.int .i64 at_,.int .i64 wins,.string key]))∧w'.cell? ⟨r,0,none⟩=some (.slice (some ⟨n,0,none⟩) 0 c)∧w.grownBy w' (some r):=by
  have hlt:r < w.heap.size:=World.block_lt_of_cell? w _ h0
  have hlt2:n < w.heap.size:=World.block_lt_of_cell? w _ d0
  have hf1:(w.alloc (Obj.cells #[.int .i64 at_,.int .i64 wins,.string key] 305)).frozen? ⟨r,0,none⟩=false:=(World.frozen?_alloc_past _ _ _ hlt).trans hf
  go_enter Tryz.func371,Tryz.ntmps371
  go_wp2
  refine bodyPost_ret (results_tmp rfl _ _ _) rfl ⟨rfl,?_,?_⟩
  · rw [World.cell?_alloc_lt _ _ _ (by simpa using hlt)]; exact World.cell?_setCell_same _ _ _ h0
  · exact (grownBy_set _ _ _ _).trans (grownBy_alloc _ _ _)
set_option maxRecDepth 100000 in
theorem Tryz.heapPush1 (r z:Nat) (at_ wins:Int) (key:ByteArray) (w:World) (h0:w.cell? ⟨r,0,none⟩=some (.slice (some ⟨z,0,none⟩) 0 0)) (hf:w.frozen? ⟨r,0,none⟩=false) :
    Calls Tryz.prog 198 #[.iface 300 (.pointer (some ⟨r,0,none⟩)),.iface 305 (.agg #[.int .i64 at_,.int .i64 wins,.string key])] w fun e w'=>e=.returned (.tuple #[])∧∃ n c,w'.cell? ⟨r,0,none⟩=some (.slice (some ⟨n,0,none⟩) 1 c)∧1≤c ∧
      w'.cell? ⟨n,0,none⟩=some (.int .i64 at_)∧w'.cell? ⟨n,1,none⟩=some (.int .i64 wins)∧w'.cell? ⟨n,2,none⟩=some (.string key)∧w.heap.size≤n∧w.grownBy w' (some r)∧(∀ i,w'.frozen? ⟨n,i,none⟩=false)∧w'.frozen? ⟨r,0,none⟩=false:=by
  have hp:=Tryz.mRowPush
  have hc:=Tryz.rowPush r z at_ wins key w h0 hf
  go_enter Tryz.func198,Tryz.ntmps198
  go_wp2_with (first | (go_at_call 372; refine hc.mono ?_; rintro e w' ⟨rfl,n,c,e0,e1,e2,e3,e4,e5,e6,e7,e8⟩; have hl:=Tryz.mRowLen ⟨r,0,none⟩ w' _ e0) | (go_at_call 199; go_in) | (go_at_call 237; refine (Tryz.heapUp0 _ _).mono ?_; rintro e w2 ⟨rfl,rfl⟩))
  go_end0
  exact ⟨rfl,n,c,e0,e1,e2,e3,e4,e5,e6,e7,e8⟩
set_option maxRecDepth 100000 in
theorem Tryz.heapPop1 (r n c:Nat) (hc:1≤c) (at_ wins:Int) (key:ByteArray) (w:World) (h0:w.cell? ⟨r,0,none⟩=some (.slice (some ⟨n,0,none⟩) 1 c)) (hne:r≠n) (hf:w.frozen? ⟨r,0,none⟩=false) (d0:w.cell? ⟨n,0,none⟩=some (.int .i64 at_)) (d1:w.cell? ⟨n,1,none⟩=some (.int .i64 wins)) (d2:w.cell? ⟨n,2,none⟩=some (.string key)) (hfn:∀ i,w.frozen? ⟨n,i,none⟩=false) :
    Calls Tryz.prog 200 #[.iface 300 (.pointer (some ⟨r,0,none⟩))] w fun e w'=>e=.returned (.iface 305 (.agg #[.int .i64 at_,.int .i64 wins,.string key]))∧w'.cell? ⟨r,0,none⟩=some (.slice (some ⟨n,0,none⟩) 0 c)∧(w.os=w'.os∧w.tape=w'.tape∧w.output=w'.output∧w.heap.size≤w'.heap.size∧∀ k,k < w.heap.size→k≠r→k≠n→w'.heap[k]?=w.heap[k]?):=by
  have hp:=Tryz.mRowPop
  have hl:=Tryz.mRowLen ⟨r,0,none⟩ w _ h0
  have hs:=Tryz.mRowSwap ⟨r,0,none⟩ w _ h0
  have hw:=Tryz.rowSwap0 n c at_ wins key w d0 d1 d2 hfn
  have hlt:r < w.heap.size:=World.block_lt_of_cell? w _ h0
  go_enter Tryz.func200,Tryz.ntmps200
  go_wp2_with (first | (go_at_call 199; go_in) | (go_at_call 373; refine hw.mono ?_; rintro e w1 ⟨rfl,e0,e1,e2,hg1,hf1⟩) | (go_at_call 238; refine (Tryz.heapDown0 _ _).mono ?_; rintro e w2 ⟨rfl,rfl⟩) | (go_at_call 371; refine (Tryz.rowPop r n c hc at_ wins key _ (hg1.cell h0 (by simpa using hne)) ((World.frozen?_of_block (hg1.block r hlt (by simpa using hne))).trans hf) e0 e1 e2).mono ?_; rintro e w3 ⟨rfl,e4,hg3⟩))
  refine bodyPost_ret (results_tmp rfl _ _ _) rfl ⟨rfl,e4,?_,?_,?_,?_,fun k hk h1 h2=>?_⟩
  · exact (hg3.os.trans hg1.os).symm
  · exact (hg3.tape.trans hg1.tape).symm
  · exact (hg3.output.trans hg1.output).symm
  · exact Nat.le_trans hg1.size hg3.size
  · exact (hg3.block k (Nat.lt_of_lt_of_le hk hg1.size) (by simpa using h1)).trans (hg1.block k hk (by simpa using h2))
end Go.Proofs

namespace Go.Proofs
open Go Go.RowKit
set_option maxRecDepth 100000 in
set_option maxHeartbeats 1000000 in
theorem Tryz.order1 (kb kc:Nat) (key:ByteArray) (v2:Value) (w:World) (h0:w.cell? ⟨kb,0,none⟩=some (.string key))
  (hwins:Calls Tryz.prog 89 #[v2] w fun e w'=>∃ b c,e=.returned (.slice (some ⟨b,0,none⟩) 1 c)∧w'.cell? ⟨b,0,none⟩=some (.int .i64 0)∧Below w.heap.size w w') :
  Calls Tryz.prog 148 #[.slice (some ⟨kb,0,none⟩) 1 kc,v2] w fun e w'=>∃ b c,e=.returned (.slice (some ⟨b,0,none⟩) 1 c)∧w'.cell? ⟨b,0,none⟩=some (.int .i64 0)∧Below w.heap.size w w':=by
  go_enter Tryz.func148,Tryz.ntmps148
  go_wp2_with (go_at_call 89; refine hwins.mono ?_; rintro e w1 ⟨b,bc,rfl,hc,hb⟩)
  refine wp_loop_rounds 2 ?_
  rw [rounds_succ]
  have hk:w1.cell? ⟨kb,0,none⟩=some (.string key):=(hb.cell (World.block_lt_of_cell? _ _ h0)).trans h0
  have hkl:kb < w1.heap.size:=World.block_lt_of_cell? _ _ hk
  have hbl:b < w1.heap.size:=World.block_lt_of_cell? _ _ hc
  go_wp2
  obtain ⟨W1,hW1⟩:∃ W1,W1=((w1.alloc (Obj.cells #[] 305)).alloc (Obj.cells #[.slice (some ⟨w1.heap.size,0,none⟩) 0 0] 302)):=⟨_,rfl⟩
  have hr:W1.cell? ⟨w1.heap.size+1,0,none⟩=some (.slice (some ⟨w1.heap.size,0,none⟩) 0 0):=by rw [hW1]; go_simp
  have hf:W1.frozen? ⟨w1.heap.size+1,0,none⟩=false:=by rw [hW1]; exact World.frozen?_alloc_at _ _ _ _ (by simp)
  have hk1:W1.cell? ⟨kb,0,none⟩=some (.string key):=by rw [hW1]; go_simp
  have hc1:W1.cell? ⟨b,0,none⟩=some (.int .i64 0):=by rw [hW1]; go_simp
  have hz1:W1.heap.size=w1.heap.size+2:=by rw [hW1]; simp
  have hb1:Below w1.heap.size w1 W1:=by rw [hW1]; exact ((Below.refl _ _).alloc (Nat.le_refl _) _).alloc (by simp) _
  rw [← hW1]
  clear hW1
  have hpush:=Tryz.heapPush1 (w1.heap.size+1) w1.heap.size 0 0 key W1.drew hr hf
  refine wp_region_held_drew (S:=fun W=>W.cell? ⟨kb,0,none⟩=some (.string key)∧W.cell? ⟨b,0,none⟩=some (.int .i64 0)) (by kernel_rfl) ⟨hk1,hc1⟩ fun hS=>?_
  refine wpAnyH_take (i:=0) (v:=.pointer (some ⟨w1.heap.size+1,0,none⟩)) (fuel:=13) rfl (by kernel_rfl) (by kernel_rfl) (by kernel_rfl) (fun _ _ _ h=>h) (.inl ⟨rfl,fun W hW=>by go_simp⟩) hS ?_
  refine wpAnyH_take (i:=1) (v:=.iface 300 (.pointer (some ⟨w1.heap.size+1,0,none⟩))) (fuel:=12) rfl (by kernel_rfl) (by kernel_rfl) (by kernel_rfl) (fun _ _ _ h=>h) (.inl ⟨rfl,fun W hW=>by go_simp⟩) hS ?_
  refine wpAnyH_take (i:=2) (v:=.int .i64 0) (fuel:=11) rfl (by kernel_rfl) (by kernel_rfl) (by kernel_rfl) (fun _ _ _ h=>h) (.inl ⟨rfl,fun W hW=>by go_simp⟩) hS ?_
  refine wpAnyH_take (i:=3) (v:=.slice (some ⟨b,0,none⟩) 1 bc) (fuel:=10) rfl (by kernel_rfl) (by kernel_rfl) (by kernel_rfl) (fun _ _ _ h=>h) (.inl ⟨rfl,fun W hW=>by go_simp⟩) hS ?_
  refine wpAnyH_take (i:=4) (v:=.int .i64 0) (fuel:=9) rfl (by kernel_rfl) (by kernel_rfl) (by kernel_rfl) (fun _ _ _ h=>h) (.inl ⟨rfl,fun W hW=>by go_simp⟩) hS ?_
  refine wpAnyH_take (i:=5) (v:=.pointer (some ⟨b,0,none⟩)) (fuel:=8) rfl (by kernel_rfl) (by kernel_rfl) (by kernel_rfl) (fun _ _ _ h=>h) (.inl ⟨rfl,fun W hW=>by go_simp⟩) hS ?_
  refine wpAnyH_take (i:=6) (v:=.int .i64 0) (fuel:=7) rfl (by kernel_rfl) (by kernel_rfl) (by kernel_rfl) (fun _ _ _ h=>h) (.inl ⟨rfl,fun W hW=>by obtain ⟨c1,c2⟩:=hW; go_simp⟩) hS ?_
  refine wpAnyH_take (i:=7) (v:=.slice (some ⟨kb,0,none⟩) 1 kc) (fuel:=6) rfl (by kernel_rfl) (by kernel_rfl) (by kernel_rfl) (fun _ _ _ h=>h) (.inl ⟨rfl,fun W hW=>by go_simp⟩) hS ?_
  refine wpAnyH_take (i:=8) (v:=.int .i64 0) (fuel:=5) rfl (by kernel_rfl) (by kernel_rfl) (by kernel_rfl) (fun _ _ _ h=>h) (.inl ⟨rfl,fun W hW=>by go_simp⟩) hS ?_
  refine wpAnyH_take (i:=9) (v:=.pointer (some ⟨kb,0,none⟩)) (fuel:=4) rfl (by kernel_rfl) (by kernel_rfl) (by kernel_rfl) (fun _ _ _ h=>h) (.inl ⟨rfl,fun W hW=>by go_simp⟩) hS ?_
  refine wpAnyH_take (i:=10) (v:=.string key) (fuel:=3) rfl (by kernel_rfl) (by kernel_rfl) (by kernel_rfl) (fun _ _ _ h=>h) (.inl ⟨rfl,fun W hW=>by obtain ⟨c1,c2⟩:=hW; go_simp⟩) hS ?_
  refine wpAnyH_take (i:=11) (v:=.agg #[.int .i64 0,.int .i64 0,.string key]) (fuel:=2) rfl (by kernel_rfl) (by kernel_rfl) (by kernel_rfl) (fun _ _ _ h=>h) (.inl ⟨rfl,fun W hW=>by go_simp⟩) hS ?_
  refine wpAnyH_take (i:=12) (v:=.iface 305 (.agg #[.int .i64 0,.int .i64 0,.string key])) (fuel:=1) rfl (by kernel_rfl) (by kernel_rfl) (by kernel_rfl) (fun _ _ _ h=>h) (.inl ⟨rfl,fun W hW=>by go_simp⟩) hS ?_
  refine wpAnyH_ready (rs:=[13]) (by kernel_rfl) (by simp) ?_
  refine AllReadyH.cons rfl (fun K hK=>?_) AllReadyH.nil
  rw [if_pos (by kernel_rfl)]
  go_simp
  refine hpush.mono ?_
  rintro e w2 ⟨rfl,n,c,e0,e1,e2,e3,e4,e5,e6,e7,e8⟩
  have k0:w2.cell? ⟨kb,0,none⟩=some (.string key):=e6.cell hk1 (by simp; omega)
  have k1:w2.cell? ⟨b,0,none⟩=some (.int .i64 0):=e6.cell hc1 (by simp; omega)
  refine hK _ _ ⟨k0,k1⟩ fun _=>?_
  clear hK K
  refine wpAnyH_done (by kernel_rfl) ?_ _
  go_wp2
  rw [rounds_succ]
  go_wp2
  refine wp_loop_rounds 2 ?_
  rw [rounds_succ]
  have hasr:=Tryz.asRunner
  have hpop:=Tryz.heapPop1 (w1.heap.size+1) n c e1 0 0 key w2 e0 (by have:W1.drew.heap.size=w1.heap.size+2:=hz1; omega) e8 e2 e3 e4 e7
  go_wp2_with (first | (go_at_call 199; go_in) | (go_at_call 200; refine hpop.mono ?_; rintro e w3 ⟨rfl,p0,p1⟩))
  have hr3:w1.heap.size+1 < w3.heap.size:=World.block_lt_of_cell? _ _ p0
  have hr4:∀ o1 o2 o3,(((w3.alloc o1).alloc o2).alloc o3).drew.cell? ⟨w1.heap.size+1,0,none⟩=some (.slice (some ⟨n,0,none⟩) 0 c):=fun o1 o2 o3=>by
    rw [cell_drew,World.cell?_alloc_lt _ _ _ (by simp; omega),World.cell?_alloc_lt _ _ _ (by simp; omega),World.cell?_alloc_lt _ _ _ hr3]; exact p0
  rw [rounds_succ]
  go_wp2_with (first | (go_at_call 199; go_in))
  have hzW:W1.drew.heap.size=w1.heap.size+2:=hz1
  refine bodyPost_ret (results_tmp rfl _ _ _) rfl ⟨_,_,rfl,?_,?_⟩
  · go_simp
    simp [Array.getElem?_append]
  · have hs1:=hb.size
    have B1:Below w.heap.size w W1:=hb.trans (below_le hb1 hs1)
    have B2:Below w.heap.size W1 w2:=(below_drew _ W1).trans (below_of_grownBy_past e6 (by omega) (by omega))
    have B3:Below w.heap.size w2 w3:=⟨p1.1.symm,p1.2.1.symm,p1.2.2.1.symm,p1.2.2.2.1,fun k hk=>p1.2.2.2.2 k (by have:=B1.size; have:=B2.size; omega) (by omega) (by omega)⟩
    have hs3:w.heap.size≤w3.heap.size:=by have:=B1.size; have:=B2.size; have:=B3.size; omega
    exact (B1.trans (B2.trans B3)).trans ((((Below.refl _ w3).alloc hs3 _).alloc (by simp; omega) _).alloc (by simp; omega) _ |>.trans (below_drew _ _))
set_option maxRecDepth 100000 in
theorem Tryz.winner1 (kb kc:Nat) (key:ByteArray) (v2:Value) (w:World) (h0:w.cell? ⟨kb,0,none⟩=some (.string key))
  (hwins:Calls Tryz.prog 89 #[v2] w fun e w'=>∃ b c,e=.returned (.slice (some ⟨b,0,none⟩) 1 c)∧w'.cell? ⟨b,0,none⟩=some (.int .i64 0)∧Below w.heap.size w w') :
  Calls Tryz.prog 88 #[.slice (some ⟨kb,0,none⟩) 1 kc,v2] w fun e w'=>e=.returned (.int .i64 0)∧Below w.heap.size w w':=by
  have ho:=Tryz.order1 kb kc key v2 w h0 hwins
  clear hwins
  go_enter Tryz.func88,Tryz.ntmps88
  go_wp2_with (go_at_call 148; refine ho.mono ?_; rintro e w1 ⟨b,c,rfl,e0,e1⟩)
  exact bodyPost_ret (results_tmp rfl _ _ _) rfl ⟨rfl,e1⟩
theorem Tryz.order0 (v2:Value) (w:World) (hwins:Calls Tryz.prog 89 #[v2] w fun e w'=>∃ a c,e=.returned (.slice a 0 c)∧Below w.heap.size w w') :
  Calls Tryz.prog 148 #[.slice none 0 0,v2] w fun e w'=>e=.returned (.slice none 0 0)∧Below w.heap.size w w':=by
  go_enter Tryz.func148,Tryz.ntmps148
  go_wp2_with (go_at_call 89; refine hwins.mono ?_; rintro e w1 ⟨wa,wc,rfl,hb⟩)
  refine wp_loop_rounds 1 ?_
  rw [rounds_succ]
  go_wp2
  refine wp_loop_rounds 1 ?_
  rw [rounds_succ]
  go_wp2_with (first | (go_at_call 199; go_in))
  exact bodyPost_ret (results_tmp rfl _ _ _) rfl ⟨rfl,(hb.alloc hb.size _).alloc (by simp; have:=hb.size; omega) _⟩
theorem Tryz.winner0 (v2:Value) (w:World) (hwins:Calls Tryz.prog 89 #[v2] w fun e w'=>∃ a c,e=.returned (.slice a 0 c)∧Below w.heap.size w w') :
  Calls Tryz.prog 88 #[.slice none 0 0,v2] w fun e w'=>e=.returned (.int .i64 (-1))∧Below w.heap.size w w':=by
  have ho:=Tryz.order0 v2 w hwins
  clear hwins
  go_enter Tryz.func88,Tryz.ntmps88
  go_wp2_with (go_at_call 148; refine ho.mono ?_; rintro e w1 ⟨rfl,e1⟩)
  exact bodyPost_ret (results_tmp rfl _ _ _) rfl ⟨rfl,e1⟩
end Go.Proofs

namespace Go.Proofs
open Go Go.RowKit Go.Extern.Stop Go.Stop Go.Extern
theorem Tryz.isTypeOf (v:Value) (w:World):(callFunc 138 #[.iface 150 v]).run Tryz.prog w=.ok (Next.value (.iface 283 (.agg #[.pointer (some ⟨7,150,none⟩)]))) w:=by kernel_rfl
theorem Tryz.isComparable (w:World):(callFunc 360 #[.agg #[.pointer (some ⟨7,150,none⟩)]]).run Tryz.prog w=.ok (Next.value (.bool true)) w:=by kernel_rfl
theorem Tryz.isMethodComparable (v:Value) (w:World):(Go.method 557 283 v "Comparable").run Tryz.prog w=.ok (360,v) w:=by kernel_rfl
theorem Tryz.noIsW (v:Value) (xT:TypeId) (w:World):(Instr.typeAssert (.iface 152 v) xT 285 true).run Tryz.prog w=.ok (.tuple #[.nilIface,.bool false]) w:=run_typeAssert_lacksB Tryz.underlying285 (by kernel_rfl) (by kernel_rfl) v xT w
theorem Tryz.hasUnwrapW (v:Value) (xT:TypeId) (w:World):(Instr.typeAssert (.iface 152 v) xT 288 true).run Tryz.prog w=.ok (.tuple #[.iface 152 v,.bool true]) w:=run_typeAssert_hasB Tryz.underlying288 (by kernel_rfl) v xT w
theorem Tryz.methodUnwrap (v:Value) (w:World):(Go.method 557 152 v "Unwrap").run Tryz.prog w=.ok (349,v) w:=by kernel_rfl
def Tryz.noSession:ByteArray:=⟨#[110,111,32,115,101,115,115,105,111,110]⟩
theorem Tryz.eqSign (w:World):(binOp BinOp.eql 93 (.iface 150 (.string Tryz.noSession)) (.iface 150 (.string Tryz.noSession))).run Tryz.prog w=.ok (.bool true) w:=by kernel_rfl
set_option maxRecDepth 100000 in
theorem Tryz.is_wrapped (w:World) :
    Calls Tryz.prog 81 #[.iface 152 (.agg #[.iface 150 (.string Tryz.noSession)]),.iface 150 (.string Tryz.noSession)] w fun e w'=>e=.returned (.bool true)∧Below w.heap.size w w':=by
  have tT:=Tryz.isTypeOf
  have cT:=Tryz.isComparable
  have mR:=Tryz.isMethodComparable
  have nW:=Tryz.noIsW
  have uW:=Tryz.hasUnwrapW
  have mU:=Tryz.methodUnwrap
  have heq:=Tryz.eqSign
  have hty:=run_eql_iface_types (P:=Tryz.prog) 152 150 (.agg #[.iface 150 (.string Tryz.noSession)]) (.string Tryz.noSession) Tryz.underlying93 (by decide) w
  go_enter Tryz.func81,Tryz.ntmps81
  go_wp2
  refine wp_loop_rounds 2 ?_
  rw [rounds_succ]
  go_wp2
  rw [rounds_succ]
  go_wp2
  exact bodyPost_ret (results_tmp rfl _ _ _) rfl ⟨rfl,(Below.refl _ w).alloc (Nat.le_refl _) _⟩
set_option maxRecDepth 100000 in
theorem Tryz.code_none (w:World):Calls Tryz.prog 37 #[.iface 152 (.agg #[.iface 150 (.string Tryz.noSession)])] w fun e w'=>e=.returned (.int .i64 6)∧Below w.heap.size w w':=by
  have hc:∀ W:World,Calls Tryz.prog 81 #[.iface 152 (.agg #[.iface 150 (.string Tryz.noSession)]),.iface 150 (.string ⟨#[110,111,32,115,101,115,115,105,111,110]⟩)] W fun e w'=>e=.returned (.bool true)∧Below W.heap.size W w':=Tryz.is_wrapped
  go_enter Tryz.func37,Tryz.ntmps37
  go_wp2_with (go_at_call 81; refine (hc _).mono ?_; rintro e w' ⟨rfl,hb⟩)
  exact bodyPost_ret (results_tmp rfl _ _ _) rfl ⟨rfl,((Below.refl _ w).alloc (Nat.le_refl _) _).trans (below_le hb (by simp))⟩
end Go.Proofs

namespace Go.Proofs.YtlkkebfjmbfgpaaGreatDoor.Ev
open Go Go.RowKit
def byteAt (b:List UInt8) (i:Nat):BitVec 64:=BitVec.ofNat 64 (b.getD i 0).toNat
theorem byteAt_U (b:List UInt8) (i:Nat):((b.getD i 0).toNat:Int)=U (byteAt b i):=by
  unfold byteAt U
  rw [BitVec.toNat_ofNat,Nat.mod_eq_of_lt]
  have:=(b.getD i 0).toNat_lt
  omega
theorem wrap_U64 (a:BitVec 64):IntKind.wrap .u64 (U a)=U a:=by rw [U64,ofInt_U]
theorem add_or (x y:BitVec 64) (h:y.toNat < 256):x <<< 8+y=(x <<< 8) ||| y:=by
  apply BitVec.add_eq_or_of_and_eq_zero
  apply BitVec.eq_of_getLsbD_eq
  intro i hi
  rw [BitVec.getLsbD_and,BitVec.getLsbD_shiftLeft]
  by_cases h8:i < 8
  · simp [h8]
  · have:y.getLsbD i=false:=by
      show y.toNat.testBit i=false
      refine Nat.testBit_lt_two_pow (Nat.lt_of_lt_of_le h ?_)
      calc 256=2^8:=rfl
        _≤2^i:=Nat.pow_le_pow_right (by omega) (by omega)
    rw [this]; simp
def tk (b:List UInt8) (at_:Nat):Nat→BitVec 64
  | 0=>0
  | i+1=>(tk b at_ i <<< 8) ||| byteAt b (at_+i)
theorem byteAt_out {b:List UInt8} {i:Nat} (h:b.length≤i):byteAt b i=0:=by
  unfold byteAt
  rw [List.getD_eq_getElem?_getD,List.getElem?_eq_none h]; rfl
theorem take_l0 (run:Run) (n:Nat) (b:List UInt8) (at_ size:Nat) (hb:b.length≤maxLen) (ha:at_≤1000000) (hs:size≤1000):∀ (j k i:Nat),i+j=size→j < k →
    f225_l0 run n k b (at_:Int) (U (tk b at_ i)) (size:Int) (i:Int)=some ⟨[.int (U (tk b at_ size))],[],false⟩:=by
  rw [maxLen_eq] at hb
  intro j
  induction j with
  | zero =>
    intro k i hi hk
    obtain ⟨k,rfl⟩:∃ j,k=j+1:=⟨k-1,by omega⟩
    rw [Nat.add_zero] at hi
    rw [f225_l0_eq,ltI_f (by omega),hi]; rfl
  | succ j ih =>
    intro k i hi hk
    obtain ⟨k,rfl⟩:∃ j,k=j+1:=⟨k-1,by omega⟩
    have ih':=ih k (i+1) (by omega) (by omega)
    rw [show ((i+1:Nat):Int)=(i:Int)+1 by omega] at ih'
    rw [f225_l0_eq,ltI_t (by omega),leI_t (by omega),cond_true,cond_true,w64 (x:=(i:Int)+1) (by omega) (by omega),w64 (x:=(b.length:Int)-at_) (by omega) (by omega),w64 (x:=(at_:Int)+i) (by omega) (by omega),u64_shl]
    by_cases h1:at_+i < b.length
    · rw [ltI_t (by omega),ltI_t (by omega),inR_yes (by omega) (by omega),show ((at_:Int)+i).toNat=at_+i by omega,byteAt_U,wrap_U64,u64_or]
      exact ih'
    · have e:tk b at_ (i+1)=tk b at_ i <<< 8:=by simp only [tk]; rw [byteAt_out (by omega)]; simp
      rw [e] at ih'
      by_cases h2:at_ < b.length
      · rw [ltI_t (by omega),ltI_f (by omega)]; exact ih'
      · rw [ltI_f (by omega)]; exact ih'
theorem refTake_l0 (run:Run) (n:Nat) (b:List UInt8) (at_ size:Nat) (hb:b.length≤maxLen) (ha:at_≤1000000) (hs:size≤1000):∀ (j k i:Nat),i+j=size→j < k →
    f211_l0 run n k b (at_:Int) (size:Int) (U (tk b at_ i)) (i:Int)=some ⟨[.int (U (tk b at_ size))],[],false⟩:=by
  rw [maxLen_eq] at hb
  intro j
  induction j with
  | zero =>
    intro k i hi hk
    obtain ⟨k,rfl⟩:∃ j,k=j+1:=⟨k-1,by omega⟩
    rw [Nat.add_zero] at hi
    rw [f211_l0_eq,ltI_f (by omega),hi]; rfl
  | succ j ih =>
    intro k i hi hk
    obtain ⟨k,rfl⟩:∃ j,k=j+1:=⟨k-1,by omega⟩
    have ih':=ih k (i+1) (by omega) (by omega)
    rw [show ((i+1:Nat):Int)=(i:Int)+1 by omega] at ih'
    have e0:U (tk b at_ i)*256=U (tk b at_ i)*2^8:=by rw [show (2:Int)^8=256 from rfl]
    rw [f211_l0_eq,ltI_t (by omega),leI_t (by omega),cond_true,cond_true,w64 (x:=(i:Int)+1) (by omega) (by omega),w64 (x:=(b.length:Int)-at_) (by omega) (by omega),w64 (x:=(at_:Int)+i) (by omega) (by omega),e0,u64_shl]
    by_cases h1:at_+i < b.length
    · have hlt:(byteAt b (at_+i)).toNat < 256:=by
        unfold byteAt
        rw [BitVec.toNat_ofNat]
        have:=(b.getD (at_+i) 0).toNat_lt
        omega
      rw [ltI_t (by omega),ltI_t (by omega),inR_yes (by omega) (by omega),show ((at_:Int)+i).toNat=at_+i by omega,byteAt_U,wrap_U64,u64_add,add_or _ _ hlt]
      exact ih'
    · have e:tk b at_ (i+1)=tk b at_ i <<< 8:=by simp only [tk]; rw [byteAt_out (by omega)]; simp
      rw [e] at ih'
      by_cases h2:at_ < b.length
      · rw [ltI_t (by omega),ltI_f (by omega)]; exact ih'
      · rw [ltI_f (by omega)]; exact ih'
def tk32 (b:List UInt8) (at_:Nat):BitVec 32:=(tk b at_ 4).setWidth 32
theorem tk32_U (b:List UInt8) (at_:Nat):IntKind.wrap .u32 (U (tk b at_ 4))=U (tk32 b at_):=by
  rw [wrap32]; unfold tk32 U; rw [BitVec.toNat_setWidth]; omega
theorem take_at (n:Nat) (hn:2000≤n) {b:List UInt8} (hb:b.length≤maxLen) {at_ size:Nat} (ha:at_≤1000000) (hs:size≤1000):runE G ext (n+1) 225 [.str b,.int at_,.int size]=some ⟨[.int (U (tk b at_ size))],[],false⟩:=by
  rw [f225_run,f225_eq]
  exact take_l0 _ _ b at_ size hb ha hs size n 0 (by omega) (by omega)
theorem refTake_at (n:Nat) (hn:2000≤n) {b:List UInt8} (hb:b.length≤maxLen) {at_ size:Nat} (ha:at_≤1000000) (hs:size≤1000):runE G ext (n+1) 211 [.str b,.int at_,.int size]=some ⟨[.int (U (tk b at_ size))],[],false⟩:=by
  rw [f211_run,f211_eq]
  exact refTake_l0 _ _ b at_ size hb ha hs size n 0 (by omega) (by omega)
theorem take32_at (n:Nat) (hn:2000≤n) {b:List UInt8} (hb:b.length≤maxLen) {at_:Nat} (ha:at_≤1000000):runE G ext (n+2) 252 [.str b,.int at_]=some ⟨[.int (U (tk32 b at_))],[],false⟩:=by
  rw [f252_run,f252_eq,show ((4:Int))=((4:Nat):Int) from rfl,take_at n hn hb ha (by omega)]
  simp only [bind_run,consV_c,nilV_n,toInt_i]
  rw [tk32_U]; rfl
def rotV (x:BitVec 32) (k:Nat):BitVec 32:=(x >>> k) ||| (x <<< (32-k))
theorem wu64' {x:Int} (h1:0≤x) (h2:x < 18446744073709551616):IntKind.wrap .u64 x=x:=by rw [wrap64]; omega
theorem k31:∀ k:Nat,k < 32→IntKind.wrap .u64 (BitVec.toNat (BitVec.ofInt 64 (IntKind.wrap .u64 (k:Int)) &&& BitVec.ofInt 64 31))=(k:Int):=by decide +kernel
theorem rot_at (n:Nat) (x:BitVec 32) {k:Nat} (hk:k < 32):runE G ext (n+1) 215 [.int (U x),.int (k:Int)]=some ⟨[.int (U (rotV x k))],[],false⟩:=by
  rw [f215_run,f215_eq,k31 k hk,wu64' (by omega) (by omega),leI_t (by omega),leI_t (by omega),Int.toNat_natCast,show min k 32=k by omega,show min ((32:Int)-k).toNat 32=32-k by omega,u32_shl,U_shr,u32_or]
  rfl
theorem turn_or (x:BitVec 32) {k:Nat} (hk:k < 32):x >>> k+x <<< (32-k)=rotV x k:=by
  unfold rotV
  apply BitVec.add_eq_or_of_and_eq_zero
  apply BitVec.eq_of_getLsbD_eq
  intro i hi
  rw [BitVec.getLsbD_and,BitVec.getLsbD_shiftLeft,BitVec.getLsbD_ushiftRight]
  by_cases h:i < 32-k
  · simp [h]
  · have:x.getLsbD (k+i)=false:=BitVec.getLsbD_of_ge _ _ (by omega)
    rw [this]; simp
theorem turn_at (n:Nat) (x:BitVec 32) {k:Nat} (hk:k < 32):runE G ext (n+1) 162 [.int (U x),.int (k:Int)]=some ⟨[.int (U (rotV x k))],[],false⟩:=by
  rw [f162_run,f162_eq,wu64' (by omega) (by omega),leI_t (by omega),leI_t (by omega),Int.toNat_natCast,show min k 32=k by omega,show min ((32:Int)-k).toNat 32=32-k by omega,u32_shl,U_shr,u32_add,turn_or x hk]
  rfl
def A (l:List (BitVec 32)):List AV:=l.map fun b=>.int (U b)
theorem A_len (l:List (BitVec 32)):(A l).length=l.length:=by simp [A]
theorem fldA {l:List (BitVec 32)} {r:List AV} {i:Nat} (h:i < l.length):(AV.fld (.agg (A l++r)) i).toInt=U (l.getD i 0):=by
  show (nth (A l++r) i).toInt=_
  unfold nth
  rw [List.getD_eq_getElem?_getD,List.getElem?_append_left (by rw [A_len]; exact h)]
  simp [A,h,AV.toInt]
theorem setA {l:List (BitVec 32)} {m:Nat} (w:BitVec 32):(A l++List.replicate (m+1) (AV.int 0)).set l.length (.int (U w))=A (l++[w])++List.replicate m (.int 0):=by
  rw [List.set_append_right _ _ (by rw [A_len]; exact Nat.le_refl _),A_len,Nat.sub_self,List.replicate_succ,List.set_cons_zero]
  simp [A]
def sg0 (x:BitVec 32):BitVec 32:=(rotV x 7 ^^^ rotV x 18) ^^^ (x >>> 3)
def sg1 (x:BitVec 32):BitVec 32:=(rotV x 17 ^^^ rotV x 19) ^^^ (x >>> 10)
def wordV (b:List UInt8) (l:List (BitVec 32)) (i:Nat):BitVec 32 :=
  if i < 16 then tk32 b (4*i) else l.getD (i-16) 0+sg0 (l.getD (i-15) 0)+l.getD (i-7) 0+sg1 (l.getD (i-2) 0)
def sp (b:List UInt8):Nat→List (BitVec 32)
  | 0=>[]
  | i+1=>sp b i++[wordV b (sp b i) i]
theorem sp_len (b:List UInt8):∀ i,(sp b i).length=i
  | 0=>rfl
  | i+1=>by simp [sp,sp_len b i]
theorem spread_l0 (m n:Nat) (hm:2000≤m) (b:List UInt8) (hb:b.length≤maxLen) (o:List AV):∀ (j k i:Nat),i+j=64→j < k →
    f213_l0 (runE G ext (m+2)) n k b (i:Int) o (A (sp b i)++List.replicate (64-i) (.int 0))=some ⟨[.agg (A (sp b 64))],[],false⟩:=by
  intro j
  induction j with
  | zero =>
    intro k i hi hk
    obtain ⟨k,rfl⟩:∃ j,k=j+1:=⟨k-1,by omega⟩
    rw [Nat.add_zero] at hi
    subst hi
    rw [f213_l0_eq,ltI_f (by omega),Nat.sub_self,List.replicate_zero,List.append_nil]; rfl
  | succ j ih =>
    intro k i hi hk
    obtain ⟨k,rfl⟩:∃ j,k=j+1:=⟨k-1,by omega⟩
    have ih':=ih k (i+1) (by omega) (by omega)
    rw [show ((i+1:Nat):Int)=(i:Int)+1 by omega] at ih'
    have hs:=setA (l:=sp b i) (m:=64-(i+1)) (wordV b (sp b i) i)
    rw [sp_len,show 64-(i+1)+1=64-i by omega] at hs
    rw [show sp b i++[wordV b (sp b i) i]=sp b (i+1) from rfl] at hs
    rw [← hs] at ih'
    rw [f213_l0_eq,ltI_t (by omega),cond_true,w64 (x:=(i:Int)+1) (by omega) (by omega)]
    by_cases h:i < 16
    · rw [ltI_t (by omega),cond_true,w64 (x:=4*(i:Int)) (by omega) (by omega),show 4*(i:Int)=((4*i:Nat):Int) by omega,take32_at m hm hb (by omega)]
      simp only [bind_run,consV_c,nilV_n,toInt_i]
      rw [inR_nat (by omega),cond_true,Int.toNat_natCast,show tk32 b (4*i)=wordV b (sp b i) i by simp [wordV,h]]
      exact ih'
    · have hw:wordV b (sp b i) i=(sp b i).getD (i-16) 0+sg0 ((sp b i).getD (i-15) 0)+(sp b i).getD (i-7) 0+sg1 ((sp b i).getD (i-2) 0):=by simp [wordV,h]
      have f1:=fldA (l:=sp b i) (r:=List.replicate (64-i) (.int 0)) (i:=i-15) (by rw [sp_len]; omega)
      have f2:=fldA (l:=sp b i) (r:=List.replicate (64-i) (.int 0)) (i:=i-2) (by rw [sp_len]; omega)
      have f3:=fldA (l:=sp b i) (r:=List.replicate (64-i) (.int 0)) (i:=i-16) (by rw [sp_len]; omega)
      have f4:=fldA (l:=sp b i) (r:=List.replicate (64-i) (.int 0)) (i:=i-7) (by rw [sp_len]; omega)
      rw [ltI_f (by omega),cond_false,w64 (x:=(i:Int)-15) (by omega) (by omega),w64 (x:=(i:Int)-2) (by omega) (by omega),w64 (x:=(i:Int)-16) (by omega) (by omega),w64 (x:=(i:Int)-7) (by omega) (by omega),
        show ((i:Int)-15).toNat=i-15 by omega,show ((i:Int)-2).toNat=i-2 by omega,show ((i:Int)-16).toNat=i-16 by omega,show ((i:Int)-7).toNat=i-7 by omega,f1,f2,f3,f4,
        show (7:Int)=((7:Nat):Int) from rfl,show (18:Int)=((18:Nat):Int) from rfl,show (17:Int)=((17:Nat):Int) from rfl,show (19:Int)=((19:Nat):Int) from rfl,
        rot_at (m+1) _ (by omega),rot_at (m+1) _ (by omega),rot_at (m+1) _ (by omega),rot_at (m+1) _ (by omega)]
      simp only [bind_run,consV_c,nilV_n,toInt_i]
      rw [inR_yes (i:=(i:Int)-15) (by omega) (by omega),inR_yes (i:=(i:Int)-2) (by omega) (by omega),inR_yes (i:=(i:Int)-16) (by omega) (by omega),inR_yes (i:=(i:Int)-((7:Nat):Int)) (by omega) (by omega),inR_nat (by omega),Int.toNat_natCast]
      simp only [cond_true,U_shr,u32_xor,u32_add]
      rw [hw] at ih'
      exact ih'
theorem spread_at (m:Nat) (hm:2000≤m) {b:List UInt8} (hb:b.length≤maxLen):runE G ext (m+3) 213 [.str b]=some ⟨[.agg (A (sp b 64))],[],false⟩:=by
  rw [f213_run,f213_eq]
  exact spread_l0 m _ hm b hb _ 64 _ 0 (by omega) (by omega)
end Go.Proofs.YtlkkebfjmbfgpaaGreatDoor.Ev
namespace Go.Proofs.YtlkkebfjmbfgpaaGreatDoor.Ev
open Go Go.RowKit
theorem refSpread_l2 (m n k0:Nat) (b:List UInt8) (o:List AV):∀ (j k i:Nat),i+j=64→16≤i→j < k →
    f161_l2 (runE G ext (m+2)) n k0 k (i:Int) o (A (sp b i)++List.replicate (64-i) (.int 0))=some ⟨[.agg (A (sp b 64))],[],false⟩:=by
  intro j
  induction j with
  | zero =>
    intro k i hi _ hk
    obtain ⟨k,rfl⟩:∃ j,k=j+1:=⟨k-1,by omega⟩
    rw [Nat.add_zero] at hi
    subst hi
    rw [f161_l2_eq,ltI_f (by omega),Nat.sub_self,List.replicate_zero,List.append_nil]; rfl
  | succ j ih =>
    intro k i hi h16 hk
    obtain ⟨k,rfl⟩:∃ j,k=j+1:=⟨k-1,by omega⟩
    have ih':=ih k (i+1) (by omega) (by omega) (by omega)
    rw [show ((i+1:Nat):Int)=(i:Int)+1 by omega] at ih'
    have hs:=setA (l:=sp b i) (m:=64-(i+1)) (wordV b (sp b i) i)
    rw [sp_len,show 64-(i+1)+1=64-i by omega,show sp b i++[wordV b (sp b i) i]=sp b (i+1) from rfl] at hs
    rw [← hs] at ih'
    have h:¬ i < 16:=by omega
    have hw:wordV b (sp b i) i=(sp b i).getD (i-16) 0+sg0 ((sp b i).getD (i-15) 0)+(sp b i).getD (i-7) 0+sg1 ((sp b i).getD (i-2) 0):=by simp [wordV,h]
    have f1:=fldA (l:=sp b i) (r:=List.replicate (64-i) (.int 0)) (i:=i-15) (by rw [sp_len]; omega)
    have f2:=fldA (l:=sp b i) (r:=List.replicate (64-i) (.int 0)) (i:=i-2) (by rw [sp_len]; omega)
    have f3:=fldA (l:=sp b i) (r:=List.replicate (64-i) (.int 0)) (i:=i-16) (by rw [sp_len]; omega)
    have f4:=fldA (l:=sp b i) (r:=List.replicate (64-i) (.int 0)) (i:=i-7) (by rw [sp_len]; omega)
    have r1:∀ x,runE G ext (m+1+1) 162 [.int (U x),.int 7]=some ⟨[.int (U (rotV x 7))],[],false⟩:=fun x=>turn_at (m+1) x (k:=7) (by omega)
    have r2:∀ x,runE G ext (m+1+1) 162 [.int (U x),.int 18]=some ⟨[.int (U (rotV x 18))],[],false⟩:=fun x=>turn_at (m+1) x (k:=18) (by omega)
    have r3:∀ x,runE G ext (m+1+1) 162 [.int (U x),.int 17]=some ⟨[.int (U (rotV x 17))],[],false⟩:=fun x=>turn_at (m+1) x (k:=17) (by omega)
    have r4:∀ x,runE G ext (m+1+1) 162 [.int (U x),.int 19]=some ⟨[.int (U (rotV x 19))],[],false⟩:=fun x=>turn_at (m+1) x (k:=19) (by omega)
    rw [f161_l2_eq,ltI_t (by omega),cond_true,w64 (x:=(i:Int)+1) (by omega) (by omega),w64 (x:=(i:Int)-15) (by omega) (by omega),w64 (x:=(i:Int)-2) (by omega) (by omega),w64 (x:=(i:Int)-16) (by omega) (by omega),w64 (x:=(i:Int)-7) (by omega) (by omega),
      show ((i:Int)-15).toNat=i-15 by omega,show ((i:Int)-2).toNat=i-2 by omega,show ((i:Int)-16).toNat=i-16 by omega,show ((i:Int)-7).toNat=i-7 by omega,f1,f2,f3,f4,r1,r2,r3,r4]
    simp only [bind_run,consV_c,nilV_n,toInt_i]
    rw [inR_yes (i:=(i:Int)-15) (by omega) (by omega),inR_yes (i:=(i:Int)-2) (by omega) (by omega),inR_yes (i:=(i:Int)-16) (by omega) (by omega),inR_yes (i:=(i:Int)-7) (by omega) (by omega),inR_nat (by omega),Int.toNat_natCast]
    simp only [cond_true,U_shr,u32_xor,u32_add]
    rw [hw] at ih'
    exact ih'
theorem refSpread_l0 (m n:Nat) (hm:2000≤m) (hn:100≤n) (b:List UInt8) (hb:b.length≤maxLen) (o:List AV):∀ (j k i:Nat),i+j=16→j < k →
    f161_l0 (runE G ext (m+2)) n k b (i:Int) o (A (sp b i)++List.replicate (64-i) (.int 0))=some ⟨[.agg (A (sp b 64))],[],false⟩:=by
  intro j
  induction j with
  | zero =>
    intro k i hi hk
    obtain ⟨k,rfl⟩:∃ j,k=j+1:=⟨k-1,by omega⟩
    rw [Nat.add_zero] at hi
    subst hi
    rw [f161_l0_eq,ltI_f (by omega),cond_false]
    exact refSpread_l2 m n k b o 48 n 16 (by omega) (by omega) (by omega)
  | succ j ih =>
    intro k i hi hk
    obtain ⟨k,rfl⟩:∃ j,k=j+1:=⟨k-1,by omega⟩
    have ih':=ih k (i+1) (by omega) (by omega)
    rw [show ((i+1:Nat):Int)=(i:Int)+1 by omega] at ih'
    have hs:=setA (l:=sp b i) (m:=64-(i+1)) (wordV b (sp b i) i)
    rw [sp_len,show 64-(i+1)+1=64-i by omega,show sp b i++[wordV b (sp b i) i]=sp b (i+1) from rfl] at hs
    rw [← hs] at ih'
    have h:i < 16:=by omega
    have ht:runE G ext (m+1+1) 211 [.str b,.int ((4*i:Nat):Int),.int 4]=some ⟨[.int (U (tk b (4*i) 4))],[],false⟩:=refTake_at (m+1) (by omega) hb (size:=4) (by omega) (by omega)
    rw [f161_l0_eq,ltI_t (by omega),cond_true,w64 (x:=(i:Int)+1) (by omega) (by omega),w64 (x:=4*(i:Int)) (by omega) (by omega),show 4*(i:Int)=((4*i:Nat):Int) by omega,ht]
    simp only [bind_run,consV_c,nilV_n,toInt_i]
    rw [inR_nat (by omega),cond_true,Int.toNat_natCast,tk32_U,show tk32 b (4*i)=wordV b (sp b i) i by simp [wordV,h]]
    exact ih'
theorem refSpread_at (m:Nat) (hm:2000≤m) {b:List UInt8} (hb:b.length≤maxLen):runE G ext (m+3) 161 [.str b]=some ⟨[.agg (A (sp b 64))],[],false⟩:=by
  rw [f161_run,f161_eq]
  exact refSpread_l0 m _ hm (by omega) b hb _ 16 _ 0 (by omega) (by omega)
def klN:List Int:=[1116352408,1899447441,3049323471,3921009573,961987163,1508970993,2453635748,2870763221,3624381080,310598401,607225278,1426881987,1925078388,2162078206,2614888103,3248222580,3835390401,4022224774,264347078,604807628,770255983,1249150122,1555081692,1996064986,2554220882,2821834349,2952996808,3210313671,3336571891,3584528711,113926993,338241895,666307205,773529912,1294757372,1396182291,1695183700,1986661051,2177026350,2456956037,2730485921,2820302411,3259730800,3345764771,3516065817,3600352804,4094571909,275423344,430227734,506948616,659060556,883997877,958139571,1322822218,1537002063,1747873779,1955562222,2024104815,2227730452,2361852424,2428436474,2756734187,3204031479,3329325298]
def kl:List (BitVec 32):=klN.map (BitVec.ofInt 32)
theorem kl_A:A kl=klN.map AV.int:=by kernel_rfl
theorem kl_len:kl.length=64:=rfl
def rnd (k w:BitVec 32):List (BitVec 32)→List (BitVec 32)
  | [a,b,c,d,e,f,g,h] =>
    [h+((rotV e 6 ^^^ rotV e 11) ^^^ rotV e 25)+((e &&& f) ^^^ (~~~e &&& g))+k+w+((rotV a 2 ^^^ rotV a 13) ^^^ rotV a 22)+(((a &&& b) ^^^ (a &&& c)) ^^^ (b &&& c)),a,b,c,
      d+(h+((rotV e 6 ^^^ rotV e 11) ^^^ rotV e 25)+((e &&& f) ^^^ (~~~e &&& g))+k+w),e,f,g]
  | l=>l
def rds (w:List (BitVec 32)):Nat→Nat→List (BitVec 32)→List (BitVec 32)
  | 0,_,s=>s
  | j+1,i,s=>rds w j (i+1) (rnd (kl.getD i 0) (w.getD i 0) s)
theorem len8 {α:Type} {s:List α} (h:s.length=8):∃ a b c d e f g i,s=[a,b,c,d,e,f,g,i]:=by
  match s,h with
  | [a,b,c,d,e,f,g,i],_=>exact ⟨a,b,c,d,e,f,g,i,rfl⟩
theorem rnd_len (k w:BitVec 32) {s:List (BitVec 32)} (h:s.length=8):(rnd k w s).length=8:=by
  obtain ⟨a,b,c,d,e,f,g,i,rfl⟩:=len8 h; rfl
theorem fldA' {l:List (BitVec 32)} {i:Nat} (h:i < l.length):(AV.fld (.agg (A l)) i).toInt=U (l.getD i 0):=by
  have:=fldA (l:=l) (r:=[]) h
  rwa [List.append_nil] at this
def addN (i:Nat) (h v:List (BitVec 32)):List (BitVec 32):=(List.range 8).map fun j=>if j < i then h.getD j 0+v.getD j 0 else h.getD j 0
theorem addN_len (i:Nat) (h v:List (BitVec 32)):(addN i h v).length=8:=by simp [addN]
theorem addN_zero {h:List (BitVec 32)} (v:List (BitVec 32)) (hl:h.length=8):addN 0 h v=h:=by
  apply List.ext_getElem
  · simp [addN,hl]
  · intro j h1 h2; simp [addN,h2]
theorem addN_get {i:Nat} (h v:List (BitVec 32)) (hi:i < 8):(addN i h v).getD i 0=h.getD i 0:=by
  simp [addN,hi]
theorem addN_set {i:Nat} (h v:List (BitVec 32)) (_hi:i < 8):(A (addN i h v)).set i (.int (U (h.getD i 0+v.getD i 0)))=A (addN (i+1) h v):=by
  apply List.ext_getElem
  · simp [A,addN]
  · intro j h1 h2
    have hj:j < 8:=by simpa [A,addN] using h2
    rw [List.getElem_set]
    by_cases e:i=j
    · subst e
      simp [A,addN]
    · rw [if_neg e]
      by_cases hji:j < i
      · simp [A,addN,hji,show j < i+1 by omega]
      · simp [A,addN,hji,show ¬ j < i+1 by omega]
theorem mix_l2 (run:Run) (n k0:Nat) (h v:List (BitVec 32)) (hv:v.length=8) (o:List AV):∀ (j k i:Nat),i+j=8→j < k →
    f167_l2 run n k0 k (i:Int) (A (addN i h v)) o (A v)=some ⟨[.agg (A (addN 8 h v))],[],false⟩:=by
  intro j
  induction j with
  | zero =>
    intro k i hi hk
    obtain ⟨k,rfl⟩:∃ j,k=j+1:=⟨k-1,by omega⟩
    rw [Nat.add_zero] at hi
    subst hi
    rw [f167_l2_eq,ltI_f (by omega)]; rfl
  | succ j ih =>
    intro k i hi hk
    obtain ⟨k,rfl⟩:∃ j,k=j+1:=⟨k-1,by omega⟩
    have ih':=ih k (i+1) (by omega) (by omega)
    rw [show ((i+1:Nat):Int)=(i:Int)+1 by omega,← addN_set h v (by omega)] at ih'
    rw [f167_l2_eq,ltI_t (by omega),inR_nat (by omega),w64 (x:=(i:Int)+1) (by omega) (by omega),Int.toNat_natCast,fldA' (by rw [addN_len]; omega),fldA' (by omega),addN_get h v (by omega),u32_add]
    exact ih'
theorem refMix_l4 (run:Run) (n k0:Nat) (h v:List (BitVec 32)) (hv:v.length=8) (o:List AV):∀ (j k i:Nat),i+j=8→j < k →
    f98_l4 run n k0 k (i:Int) (A (addN i h v)) o (A v)=some ⟨[.agg (A (addN 8 h v))],[],false⟩:=by
  intro j
  induction j with
  | zero =>
    intro k i hi hk
    obtain ⟨k,rfl⟩:∃ j,k=j+1:=⟨k-1,by omega⟩
    rw [Nat.add_zero] at hi
    subst hi
    rw [f98_l4_eq,ltI_f (by omega)]; rfl
  | succ j ih =>
    intro k i hi hk
    obtain ⟨k,rfl⟩:∃ j,k=j+1:=⟨k-1,by omega⟩
    have ih':=ih k (i+1) (by omega) (by omega)
    rw [show ((i+1:Nat):Int)=(i:Int)+1 by omega,← addN_set h v (by omega)] at ih'
    rw [f98_l4_eq,ltI_t (by omega),inR_nat (by omega),w64 (x:=(i:Int)+1) (by omega) (by omega),Int.toNat_natCast,fldA' (by rw [addN_len]; omega),fldA' (by omega),addN_get h v (by omega),u32_add]
    exact ih'
theorem u32_not (a:BitVec 32):IntKind.wrap .u32 (BitVec.toNat (BitVec.ofInt 32 4294967295 ^^^ BitVec.ofInt 32 (U a)))=U (~~~ a):=by
  rw [U32,ofInt_U,ofInt_toNat,show BitVec.ofInt 32 4294967295=BitVec.allOnes 32 from by decide +kernel,BitVec.allOnes_xor]
theorem u32_not' (a:BitVec 32):IntKind.wrap .u32 (4294967295-U a)=U (~~~ a):=by
  have h:=a.isLt
  rw [wrap32]; unfold U; rw [BitVec.toNat_not]; omega
theorem mix_l0 (m n:Nat) (hn:100≤n) (w h0:List (BitVec 32)) (hw:w.length=64) (hh:h0.length=8) (o4:List AV):∀ (j k i:Nat) (s:List (BitVec 32)),i+j=64→j < k→s.length=8 →
    f167_l0 (runE G ext (m+1)) n k (i:Int) (A h0) o4 (A w) (A kl) (A s)=some ⟨[.agg (A (addN 8 h0 (rds w j i s)))],[],false⟩:=by
  intro j
  induction j with
  | zero =>
    intro k i s hi hk hs
    obtain ⟨k,rfl⟩:∃ j,k=j+1:=⟨k-1,by omega⟩
    rw [f167_l0_eq,ltI_f (by omega),cond_false]
    have:=mix_l2 (runE G ext (m+1)) n k h0 s hs o4 8 n 0 (by omega) (by omega)
    rw [addN_zero _ hh] at this
    exact this
  | succ j ih =>
    intro k i s hi hk hs
    obtain ⟨k,rfl⟩:∃ j,k=j+1:=⟨k-1,by omega⟩
    have ih':=ih k (i+1) (rnd (kl.getD i 0) (w.getD i 0) s) (by omega) (by omega) (rnd_len _ _ hs)
    rw [show ((i+1:Nat):Int)=(i:Int)+1 by omega] at ih'
    have fk:=fldA' (l:=kl) (i:=i) (by rw [kl_len]; omega)
    have fw:=fldA' (l:=w) (i:=i) (by omega)
    obtain ⟨a,b,c,d,e,f,g,h,rfl⟩:=len8 hs
    have e0:(AV.fld (.agg (A [a,b,c,d,e,f,g,h])) 0).toInt=U a:=rfl
    have e1:(AV.fld (.agg (A [a,b,c,d,e,f,g,h])) 1).toInt=U b:=rfl
    have e2:(AV.fld (.agg (A [a,b,c,d,e,f,g,h])) 2).toInt=U c:=rfl
    have e3:(AV.fld (.agg (A [a,b,c,d,e,f,g,h])) 3).toInt=U d:=rfl
    have e4:(AV.fld (.agg (A [a,b,c,d,e,f,g,h])) 4).toInt=U e:=rfl
    have e5:(AV.fld (.agg (A [a,b,c,d,e,f,g,h])) 5).toInt=U f:=rfl
    have e6:(AV.fld (.agg (A [a,b,c,d,e,f,g,h])) 6).toInt=U g:=rfl
    have e7:(AV.fld (.agg (A [a,b,c,d,e,f,g,h])) 7).toInt=U h:=rfl
    have r1:runE G ext (m+1) 215 [.int (U e),.int 6]=some ⟨[.int (U (rotV e 6))],[],false⟩:=rot_at m e (k:=6) (by omega)
    have r2:runE G ext (m+1) 215 [.int (U e),.int 11]=some ⟨[.int (U (rotV e 11))],[],false⟩:=rot_at m e (k:=11) (by omega)
    have r3:runE G ext (m+1) 215 [.int (U e),.int 25]=some ⟨[.int (U (rotV e 25))],[],false⟩:=rot_at m e (k:=25) (by omega)
    have r4:runE G ext (m+1) 215 [.int (U a),.int 2]=some ⟨[.int (U (rotV a 2))],[],false⟩:=rot_at m a (k:=2) (by omega)
    have r5:runE G ext (m+1) 215 [.int (U a),.int 13]=some ⟨[.int (U (rotV a 13))],[],false⟩:=rot_at m a (k:=13) (by omega)
    have r6:runE G ext (m+1) 215 [.int (U a),.int 22]=some ⟨[.int (U (rotV a 22))],[],false⟩:=rot_at m a (k:=22) (by omega)
    rw [f167_l0_eq,ltI_t (by omega),cond_true,w64 (x:=(i:Int)+1) (by omega) (by omega),e0,e1,e2,e3,e4,e5,e6,e7,r1,r2,r3,r4,r5,r6,inR_nat (by omega),Int.toNat_natCast,fk,fw]
    simp only [bind_run,consV_c,nilV_n,toInt_i,cond_true,u32_not,u32_xor,u32_and,u32_add]
    exact ih'
def mixV (s:List (BitVec 32)) (b:List UInt8):List (BitVec 32):=addN 8 s (rds (sp b 64) 64 0 s)
theorem mixV_len (s:List (BitVec 32)) (b:List UInt8):(mixV s b).length=8:=addN_len _ _ _
theorem mix_at (m:Nat) (hm:2000≤m) {s:List (BitVec 32)} {b:List UInt8} (hs:s.length=8) (hb:b.length≤maxLen):runE G ext (m+4) 167 [.agg (A s),.str b]=some ⟨[.agg (A (mixV s b))],[],false⟩:=by
  have h2:runE G ext (m+3) 214 []=some ⟨[.agg (A kl)],[],false⟩:=by
    rw [f214_run,f214_eq,kl_A]; kernel_rfl
  rw [f167_run,f167_eq,spread_at m hm hb,bind_run,nilV_n,consV_c,nilV_n,h2,bind_run,nilV_n,consV_c,nilV_n,toAgg_a,toAgg_a]
  unfold mixV
  exact mix_l0 (m+2) (m+3) (by omega) (sp b 64) s (sp_len b 64) hs _ 64 (m+3) 0 s (by omega) (by omega) hs
def shiftN:Nat→List AV→List AV
  | 0,l=>l
  | i+1,l=>shiftN i (l.set (i+1) (.int (AV.fld (.agg l) i).toInt))
theorem refMix_l2 (run:Run) (n k0:Nat) (x7 x10 x11:Int) (o4 o5 o6:List AV):∀ (i k:Nat) (l:List AV),i < k→i≤7 →
    f98_l2 run n k0 k x7 x10 x11 (i:Int) l o4 o5 o6 =
      f98_l0 run n k0 (IntKind.wrap .i64 (x7+1)) (((shiftN i l).set 4 (.int (IntKind.wrap .u32 ((AV.fld (.agg (shiftN i l)) 4).toInt+x10)))).set 0 (.int (IntKind.wrap .u32 (x10+x11)))) o4 o5 o6:=by
  intro i
  induction i with
  | zero =>
    intro k l hk _
    obtain ⟨k,rfl⟩:∃ j,k=j+1:=⟨k-1,by omega⟩
    rw [f98_l2_eq,ltI_f (by omega)]; rfl
  | succ i ih =>
    intro k l hk h7
    obtain ⟨k,rfl⟩:∃ j,k=j+1:=⟨k-1,by omega⟩
    rw [f98_l2_eq,ltI_t (by omega),cond_true,w64 (x:=((i+1:Nat):Int)-1) (by omega) (by omega),show ((i+1:Nat):Int)-1=(i:Int) by omega,inR_nat (by omega),inR_nat (by omega),cond_true,cond_true,Int.toNat_natCast,Int.toNat_natCast,
      ih k (l.set (i+1) (.int (AV.fld (.agg l) i).toInt)) (by omega) (by omega)]
    simp only [shiftN]
theorem refMix_l0 (m n:Nat) (hn:100≤n) (w h0:List (BitVec 32)) (hw:w.length=64) (hh:h0.length=8) (o4:List AV):∀ (j k i:Nat) (s:List (BitVec 32)),i+j=64→j < k→s.length=8 →
    f98_l0 (runE G ext (m+1)) n k (i:Int) (A s) o4 (A w) (A h0)=some ⟨[.agg (A (addN 8 (rds w j i s) h0))],[],false⟩:=by
  intro j
  induction j with
  | zero =>
    intro k i s hi hk hs
    obtain ⟨k,rfl⟩:∃ j,k=j+1:=⟨k-1,by omega⟩
    rw [f98_l0_eq,ltI_f (by omega),cond_false]
    have:=refMix_l4 (runE G ext (m+1)) n k s h0 hh o4 8 n 0 (by omega) (by omega)
    rw [addN_zero _ hs] at this
    exact this
  | succ j ih =>
    intro k i s hi hk hs
    obtain ⟨k,rfl⟩:∃ j,k=j+1:=⟨k-1,by omega⟩
    have ih':=ih k (i+1) (rnd (kl.getD i 0) (w.getD i 0) s) (by omega) (by omega) (rnd_len _ _ hs)
    rw [show ((i+1:Nat):Int)=(i:Int)+1 by omega] at ih'
    have fk:(nth (klN.map AV.int) i).toInt=U (kl.getD i 0):=by rw [← kl_A]; exact fldA' (l:=kl) (i:=i) (by rw [kl_len]; omega)
    have hnum:runE G ext (m+1) 163 [.int (i:Int)]=some ⟨[.int (U (kl.getD i 0))],[],false⟩:=by
      rw [f163_run,f163_eq,inR_nat (by omega),cond_true,Int.toNat_natCast,← fk]; rfl
    have fw:=fldA' (l:=w) (i:=i) (by omega)
    obtain ⟨a,b,c,d,e,f,g,h,rfl⟩:=len8 hs
    have e0:(AV.fld (.agg (A [a,b,c,d,e,f,g,h])) 0).toInt=U a:=rfl
    have e1:(AV.fld (.agg (A [a,b,c,d,e,f,g,h])) 1).toInt=U b:=rfl
    have e2:(AV.fld (.agg (A [a,b,c,d,e,f,g,h])) 2).toInt=U c:=rfl
    have e4:(AV.fld (.agg (A [a,b,c,d,e,f,g,h])) 4).toInt=U e:=rfl
    have e5:(AV.fld (.agg (A [a,b,c,d,e,f,g,h])) 5).toInt=U f:=rfl
    have e6:(AV.fld (.agg (A [a,b,c,d,e,f,g,h])) 6).toInt=U g:=rfl
    have e7:(AV.fld (.agg (A [a,b,c,d,e,f,g,h])) 7).toInt=U h:=rfl
    have r1:runE G ext (m+1) 162 [.int (U e),.int 6]=some ⟨[.int (U (rotV e 6))],[],false⟩:=turn_at m e (k:=6) (by omega)
    have r2:runE G ext (m+1) 162 [.int (U e),.int 11]=some ⟨[.int (U (rotV e 11))],[],false⟩:=turn_at m e (k:=11) (by omega)
    have r3:runE G ext (m+1) 162 [.int (U e),.int 25]=some ⟨[.int (U (rotV e 25))],[],false⟩:=turn_at m e (k:=25) (by omega)
    have r4:runE G ext (m+1) 162 [.int (U a),.int 2]=some ⟨[.int (U (rotV a 2))],[],false⟩:=turn_at m a (k:=2) (by omega)
    have r5:runE G ext (m+1) 162 [.int (U a),.int 13]=some ⟨[.int (U (rotV a 13))],[],false⟩:=turn_at m a (k:=13) (by omega)
    have r6:runE G ext (m+1) 162 [.int (U a),.int 22]=some ⟨[.int (U (rotV a 22))],[],false⟩:=turn_at m a (k:=22) (by omega)
    rw [f98_l0_eq,ltI_t (by omega),cond_true,e0,e1,e2,e4,e5,e6,e7,r1,r2,r3,r4,r5,r6,hnum,inR_nat (by omega),Int.toNat_natCast,fw]
    simp only [bind_run,consV_c,nilV_n,toInt_i,cond_true,u32_not',u32_xor,u32_and,u32_add]
    have hsh:shiftN 7 (A [a,b,c,d,e,f,g,h])=A [a,a,b,c,d,e,f,g]:=by kernel_rfl
    have e3:(AV.fld (.agg (A [a,a,b,c,d,e,f,g])) 4).toInt=U d:=rfl
    have h2:∀ T S M:BitVec 32,f98_l2 (runE G ext (m+1)) n k n (i:Int) (U T) (U (S+M)) 7 (A [a,b,c,d,e,f,g,h]) o4 (A w) (A h0) =
        f98_l0 (runE G ext (m+1)) n k ((i:Int)+1) (A [T+S+M,a,b,c,d+T,e,f,g]) o4 (A w) (A h0):=by
      intro T S M
      have:=refMix_l2 (runE G ext (m+1)) n k (i:Int) (U T) (U (S+M)) o4 (A w) (A h0) 7 n (A [a,b,c,d,e,f,g,h]) (by omega) (by omega)
      rw [hsh,e3,u32_add,u32_add,w64 (by omega) (by omega),← BitVec.add_assoc] at this
      exact this
    exact (h2 _ _ _).trans ih'
theorem addN_comm (h v:List (BitVec 32)):addN 8 h v=addN 8 v h:=by
  unfold addN
  apply List.map_congr_left
  intro j hj
  have:j < 8:=by simpa using hj
  rw [if_pos this,if_pos this,BitVec.add_comm]
theorem refMix_at (m:Nat) (hm:2000≤m) {s:List (BitVec 32)} {b:List UInt8} (hs:s.length=8) (hb:b.length≤maxLen):runE G ext (m+4) 98 [.agg (A s),.str b]=some ⟨[.agg (A (mixV s b))],[],false⟩:=by
  rw [f98_run,f98_eq,refSpread_at m hm hb,bind_run,nilV_n,consV_c,nilV_n,toAgg_a]
  unfold mixV
  rw [addN_comm]
  exact refMix_l0 (m+2) (m+3) (by omega) (sp b 64) s (sp_len b 64) hs _ 64 (m+3) 0 s (by omega) (by omega) hs
end Go.Proofs.YtlkkebfjmbfgpaaGreatDoor.Ev
namespace Go.Proofs.YtlkkebfjmbfgpaaGreatDoor.Ev
open Go Go.RowKit
def byteOf (y:BitVec 64):UInt8:=UInt8.ofNat (y.toNat % 256)
theorem byteOf_toNat (y:BitVec 64):((byteOf y).toNat:Int)=U y % 256:=by
  unfold byteOf U
  rw [UInt8.toNat_ofNat_of_lt' (by simp [UInt8.size]; omega)]
  omega
def bs (x:BitVec 64):Nat→List UInt8
  | 0=>[]
  | i+1=>byteOf (x >>> (8*i))::bs x i
theorem bs_len (x:BitVec 64):∀ i,(bs x i).length=i
  | 0=>rfl
  | i+1=>by simp [bs,bs_len x i]
def B (l:List UInt8):List AV:=l.map fun c=>.int (c.toNat:Int)
theorem bytesOf_B (l:List UInt8):bytesOf (B l)=l:=by
  unfold bytesOf B
  rw [List.map_map]
  conv=>rhs; rw [← List.map_id l]
  apply List.map_congr_left
  intro c _
  simp [AV.toInt]
theorem set_rep (r:Nat) (z v:AV) (l:List AV):(List.replicate (r+1) z++l).set r v=List.replicate r z++(v::l):=by
  apply List.ext_getElem
  · simp; omega
  · intro i h1 h2
    rw [List.getElem_set]
    by_cases e:r=i
    · subst e
      rw [if_pos rfl,List.getElem_append_right (by simp)]
      simp
    · rw [if_neg e]
      by_cases hi:i < r
      · rw [List.getElem_append_left (by simp; omega),List.getElem_append_left (by simp; omega)]; simp
      · rw [List.getElem_append_right (by simp; omega),List.getElem_append_right (by simp; omega)]
        simp only [List.length_replicate]
        rw [List.getElem_cons]
        rw [dif_neg (by omega)]
        congr 1
theorem put_l0 (run:Run) (n:Nat) (x:BitVec 64) (m:Nat) (hm:m≤1000):∀ (j k i:Nat),i+j=m→j < k →
    f113_l0 run n k (U (x >>> (8*i))) (m:Int) m (m:Int) (i:Int) (List.replicate (m-i) (.int 0)++B (bs x i))=some ⟨[.str (bs x m)],[],false⟩:=by
  intro j
  induction j with
  | zero =>
    intro k i hi hk
    obtain ⟨k,rfl⟩:∃ j,k=j+1:=⟨k-1,by omega⟩
    rw [Nat.add_zero] at hi
    subst hi
    rw [f113_l0_eq,ltI_f (by omega),cond_false,Nat.sub_self,List.replicate_zero,List.nil_append,List.drop_zero,List.take_of_length_le (by simp [B,bs_len]),bytesOf_B]
    rfl
  | succ j ih =>
    intro k i hi hk
    obtain ⟨k,rfl⟩:∃ j,k=j+1:=⟨k-1,by omega⟩
    have ih':=ih k (i+1) (by omega) (by omega)
    rw [show ((i+1:Nat):Int)=(i:Int)+1 by omega] at ih'
    have e1:x >>> (8*(i+1))=(x >>> (8*i)) >>> 8:=by rw [← BitVec.shiftRight_add]; congr 1
    have e2:IntKind.wrap .u8 (U (x >>> (8*i)))=((byteOf (x >>> (8*i))).toNat:Int):=by rw [wrap8,byteOf_toNat]
    have e3:=set_rep (m-(i+1)) (.int 0) (.int ((byteOf (x >>> (8*i))).toNat:Int)) (B (bs x i))
    rw [show m-(i+1)+1=m-i by omega,show AV.int ((byteOf (x >>> (8*i))).toNat:Int)::B (bs x i)=B (bs x (i+1)) from rfl] at e3
    rw [e1,← U_shr,← e3] at ih'
    rw [f113_l0_eq,ltI_t (by omega),cond_true,w64 (x:=(m:Int)-1) (by omega) (by omega),w64 (x:=(m:Int)-1-i) (by omega) (by omega),w64 (x:=(i:Int)+1) (by omega) (by omega),inR_yes (by omega) (by omega),cond_true,show ((m:Int)-1-i).toNat=m-(i+1) by omega,Nat.zero_add,e2]
    exact ih'
theorem put_at (n:Nat) (hn:2000≤n) (x:BitVec 64) {m:Nat} (hm:m≤1000):runE G ext (n+1) 113 [.int (U x),.int m]=some ⟨[.str (bs x m)],[],false⟩:=by
  rw [f113_run,f113_eq,eqI_t rfl,leI_t (by omega),Int.toNat_natCast,show Nat.ble (m*1) 140737488355328=true from Nat.ble_eq_true_of_le (by omega)]
  have:=put_l0 (runE G ext n) n x m hm m n 0 (by omega) (by omega)
  rw [Nat.mul_zero,BitVec.ushiftRight_zero,Nat.sub_zero,show B (bs x 0)=[] from rfl,List.append_nil] at this
  exact this
theorem refByte_at (n:Nat) (c:Int):runE G ext (n+1) 100 [.int c]=some ⟨[.str (bytesOf [.int (IntKind.wrap .u8 c)])],[],false⟩:=by
  rw [f100_run,f100_eq]; rfl
theorem refPut_l0 (m n:Nat) (x:BitVec 64) (size:Nat) (hm:size≤1000):∀ (j k i:Nat),i+j=size→j < k →
    f99_l0 (runE G ext (m+1)) n k (U (x >>> (8*i))) (size:Int) (bs x i) (i:Int)=some ⟨[.str (bs x size)],[],false⟩:=by
  intro j
  induction j with
  | zero =>
    intro k i hi hk
    obtain ⟨k,rfl⟩:∃ j,k=j+1:=⟨k-1,by omega⟩
    rw [Nat.add_zero] at hi
    subst hi
    rw [f99_l0_eq,ltI_f (by omega)]; rfl
  | succ j ih =>
    intro k i hi hk
    obtain ⟨k,rfl⟩:∃ j,k=j+1:=⟨k-1,by omega⟩
    have ih':=ih k (i+1) (by omega) (by omega)
    rw [show ((i+1:Nat):Int)=(i:Int)+1 by omega] at ih'
    have e1:x >>> (8*(i+1))=(x >>> (8*i)) >>> 8:=by rw [← BitVec.shiftRight_add]; congr 1
    obtain ⟨u1,u2⟩:=U_lt (x >>> (8*i))
    have u3:U (x >>> (8*i)) < 18446744073709551616:=u2
    have e2:bytesOf [.int (IntKind.wrap .u8 (IntKind.wrap .i64 (Int.tmod (U (x >>> (8*i))) 256)))]=[byteOf (x >>> (8*i))]:=by
      rw [Int.tmod_eq_emod_of_nonneg u1,w64 (by omega) (by omega),wrap8,Int.emod_emod_of_dvd _ (by decide),← byteOf_toNat]
      exact bytesOf_B [byteOf (x >>> (8*i))]
    have e3:IntKind.wrap .u64 (Int.tdiv (U (x >>> (8*i))) 256)=U ((x >>> (8*i)) >>> 8):=by
      have h8:=U_shr (x >>> (8*i)) 8
      rw [Int.fdiv_eq_ediv_of_nonneg _ (by decide),show (2:Int)^8=256 from rfl] at h8
      rw [Int.tdiv_eq_ediv_of_nonneg u1,wrap64,← h8]; omega
    rw [e1] at ih'
    rw [f99_l0_eq,ltI_t (by omega),cond_true,refByte_at,e2,bind_run,nilV_n,consV_c,nilV_n,toStr_s,show Nat.ble ([byteOf (x >>> (8*i))].length+(bs x i).length) maxLen=true from Nat.ble_eq_true_of_le (by rw [bs_len,maxLen_eq]; simp; omega),cond_true,w64 (x:=(i:Int)+1) (by omega) (by omega),e3]
    exact ih'
theorem refPut_at (n:Nat) (hn:2000≤n) (x:BitVec 64) {m:Nat} (hm:m≤1000):runE G ext (n+2) 99 [.int (U x),.int m]=some ⟨[.str (bs x m)],[],false⟩:=by
  rw [f99_run,f99_eq]
  have:=refPut_l0 n (n+1) x m hm m (n+1) 0 (by omega) (by omega)
  rw [Nat.mul_zero,BitVec.ushiftRight_zero] at this
  exact this
def gapV (n:Nat):Nat:=(119-n % 64) % 64
def padV (n:Nat):List UInt8:=([128]++List.replicate (gapV n) 0)++bs (BitVec.ofNat 64 (8*n)) 8
theorem padV_len (n:Nat):(padV n).length=gapV n+9:=by simp [padV,bs_len]
theorem repeatL_rep:∀ c:Nat,Lib.repeatL [0] c=List.replicate c 0
  | 0=>rfl
  | c+1=>by simp [Lib.repeatL,repeatL_rep c,List.replicate_succ]
theorem ext_repeat (s:List UInt8) (c:Int) (h0:0≤c) (h1:c < 1048576) (hs:s.length≤1048576) (n:Nat):runE G ext n 216 [.str s,.int c]=some ⟨[.str (Lib.repeatL s c.toNat)],[],false⟩:=by
  refine ext_at ?_ n
  show repeatX [.str s,.int c]=_
  unfold repeatX
  simp only [toInt_i,toStr_s]
  rw [leI_t h0,ltI_t h1,show Nat.ble s.length 1048576=true from Nat.ble_eq_true_of_le hs]
  rfl
theorem pad_at (m:Nat) (hm:2000≤m) {n:Nat} (hn:n≤1152921504606846976):runE G ext (m+3) 168 [.int (n:Int)]=some ⟨[.str (padV n)],[],false⟩:=by
  have e1:Int.tmod (n:Int) 64=((n % 64:Nat):Int):=by rw [Int.tmod_eq_emod_of_nonneg (by omega)]; omega
  have e2:IntKind.wrap .u64 (119-((n % 64:Nat):Int))=((119-n % 64:Nat):Int):=by rw [wrap64]; omega
  have e3:Int.tmod ((119-n % 64:Nat):Int) 64=((gapV n:Nat):Int):=by unfold gapV; rw [Int.tmod_eq_emod_of_nonneg (by omega)]; omega
  have hg:gapV n < 64:=by unfold gapV; omega
  have e4:IntKind.wrap .u64 (8*(n:Int))=U (BitVec.ofNat 64 (8*n)):=by unfold U; rw [wrap64,BitVec.toNat_ofNat]; omega
  have hp:runE G ext (m+2) 62 [.int (U (BitVec.ofNat 64 (8*n)))]=some ⟨[.str (bs (BitVec.ofNat 64 (8*n)) 8)],[],false⟩:=by
    have:=put_at m hm (BitVec.ofNat 64 (8*n)) (m:=8) (by omega)
    rw [f62_run,f62_eq,show (8:Int)=((8:Nat):Int) from rfl,this]
    rfl
  have hr:=ext_repeat [0] (gapV n:Int) (by omega) (by omega) (by simp) (m+2)
  rw [f168_run,f168_eq,e1,e2,e3,w64 (by omega) (by omega),hr,bind_run,nilV_n,consV_c,nilV_n,toStr_s,Int.toNat_natCast,repeatL_rep,
    show Nat.ble (1+(List.replicate (gapV n) (0:UInt8)).length) maxLen=true from Nat.ble_eq_true_of_le (by rw [maxLen_eq]; simp; omega),cond_true,e4,hp,bind_run,nilV_n,consV_c,nilV_n,toStr_s,
    show Nat.ble (([(128:UInt8)]++List.replicate (gapV n) (0:UInt8)).length+(bs (BitVec.ofNat 64 (8*n)) 8).length) maxLen=true from Nat.ble_eq_true_of_le (by rw [maxLen_eq,bs_len]; simp; omega),cond_true]
  rfl
theorem refPad_l0 (m n:Nat) (hm:2000≤m) {x:Nat} (hx:x≤1152921504606846976):∀ (j k i:Nat),i+j=gapV x→j < k →
    f97_l0 (runE G ext (m+2)) n k (x:Int) ([128]++List.replicate i 0)=some ⟨[.str (padV x)],[],false⟩:=by
  have hg:gapV x < 64:=by unfold gapV; omega
  intro j
  induction j with
  | zero =>
    intro k i hi hk
    obtain ⟨k,rfl⟩:∃ j,k=j+1:=⟨k-1,by omega⟩
    rw [Nat.add_zero] at hi
    subst hi
    have e1:Int.tmod (x:Int) 64=((x % 64:Nat):Int):=by rw [Int.tmod_eq_emod_of_nonneg (by omega)]; omega
    have el:((([(128:UInt8)]++List.replicate (gapV x) (0:UInt8)).length:Nat):Int)=((1+gapV x:Nat):Int):=by simp; omega
    have e2:IntKind.wrap .u64 ((1+gapV x:Nat):Int)=((1+gapV x:Nat):Int):=by rw [wrap64]; omega
    have e3:IntKind.wrap .u64 (((x % 64:Nat):Int)+((1+gapV x:Nat):Int))=((x % 64+(1+gapV x):Nat):Int):=by rw [wrap64]; omega
    have e4:IntKind.wrap .u64 (((x % 64+(1+gapV x):Nat):Int)+8)=((x % 64+(1+gapV x)+8:Nat):Int):=by rw [wrap64]; omega
    have e5:Int.tmod ((x % 64+(1+gapV x)+8:Nat):Int) 64=0:=by rw [Int.tmod_eq_emod_of_nonneg (by omega)]; unfold gapV; omega
    have e6:IntKind.wrap .u64 ((x:Int)*8)=U (BitVec.ofNat 64 (8*x)):=by unfold U; rw [wrap64,BitVec.toNat_ofNat]; omega
    have hp:runE G ext (m+2) 99 [.int (U (BitVec.ofNat 64 (8*x))),.int 8]=some ⟨[.str (bs (BitVec.ofNat 64 (8*x)) 8)],[],false⟩:=refPut_at m hm _ (m:=8) (by omega)
    rw [f97_l0_eq,e1,el,e2,e3,e4,e5,eqI_t rfl,not_t,cond_false,e6,hp,bind_run,nilV_n,consV_c,nilV_n,toStr_s,
      show Nat.ble (([(128:UInt8)]++List.replicate (gapV x) (0:UInt8)).length+(bs (BitVec.ofNat 64 (8*x)) 8).length) maxLen=true from Nat.ble_eq_true_of_le (by rw [maxLen_eq,bs_len]; simp; omega),cond_true]
    rfl
  | succ j ih =>
    intro k i hi hk
    obtain ⟨k,rfl⟩:∃ j,k=j+1:=⟨k-1,by omega⟩
    have ih':=ih k (i+1) (by omega) (by omega)
    have e1:Int.tmod (x:Int) 64=((x % 64:Nat):Int):=by rw [Int.tmod_eq_emod_of_nonneg (by omega)]; omega
    have el:((([(128:UInt8)]++List.replicate i (0:UInt8)).length:Nat):Int)=((1+i:Nat):Int):=by simp; omega
    have e2:IntKind.wrap .u64 ((1+i:Nat):Int)=((1+i:Nat):Int):=by rw [wrap64]; omega
    have e3:IntKind.wrap .u64 (((x % 64:Nat):Int)+((1+i:Nat):Int))=((x % 64+(1+i):Nat):Int):=by rw [wrap64]; omega
    have e4:IntKind.wrap .u64 (((x % 64+(1+i):Nat):Int)+8)=((x % 64+(1+i)+8:Nat):Int):=by rw [wrap64]; omega
    have e5:¬ Int.tmod ((x % 64+(1+i)+8:Nat):Int) 64=0:=by rw [Int.tmod_eq_emod_of_nonneg (by omega)]; unfold gapV at hi; omega
    have e7:bytesOf [.int (IntKind.wrap .u8 0)]=[(0:UInt8)]:=by decide +kernel
    have e8:([128]++List.replicate i (0:UInt8))++[0]=[128]++List.replicate (i+1) 0:=by rw [List.replicate_succ',List.append_assoc]
    rw [f97_l0_eq,e1,el,e2,e3,e4,eqI_f e5,not_f,cond_true,refByte_at,e7,bind_run,nilV_n,consV_c,nilV_n,toStr_s,
      show Nat.ble (([(128:UInt8)]++List.replicate i (0:UInt8)).length+[(0:UInt8)].length) maxLen=true from Nat.ble_eq_true_of_le (by rw [maxLen_eq]; simp; omega),cond_true,e8]
    exact ih'
theorem refPad_at (m:Nat) (hm:2000≤m) {n:Nat} (hn:n≤1152921504606846976):runE G ext (m+3) 97 [.int (n:Int)]=some ⟨[.str (padV n)],[],false⟩:=by
  have hg:gapV n < 64:=by unfold gapV; omega
  have e7:bytesOf [.int (IntKind.wrap .u8 128)]=[(128:UInt8)]:=by decide +kernel
  rw [f97_run,f97_eq,refByte_at,e7,bind_run,nilV_n,consV_c,nilV_n,toStr_s]
  have:=refPad_l0 m (m+2) hm hn (gapV n) (m+2) 0 (by omega) (by omega)
  rw [List.replicate_zero,List.append_nil] at this
  exact this
end Go.Proofs.YtlkkebfjmbfgpaaGreatDoor.Ev
namespace Go.Proofs.YtlkkebfjmbfgpaaGreatDoor.Ev
open Go Go.RowKit
def fsN:List Int:=[1779033703,3144134277,1013904242,2773480762,1359893119,2600822924,528734635,1541459225]
def fs:List (BitVec 32):=fsN.map (BitVec.ofInt 32)
theorem fs_A:A fs=fsN.map AV.int:=by kernel_rfl
theorem fs_len:fs.length=8:=rfl
def blocksV (l:List UInt8):Nat→Nat→List (BitVec 32)→List (BitVec 32)
  | 0,_,s=>s
  | j+1,at_,s=>blocksV l j (at_+64) (mixV s ((l.take (at_+64)).drop at_))
theorem blocksV_len (l:List UInt8):∀ (j at_:Nat) (s:List (BitVec 32)),s.length=8→(blocksV l j at_ s).length=8
  | 0,_,_,h=>h
  | j+1,_,_,_=>blocksV_len l j _ _ (mixV_len _ _)
theorem blocks_split (l:List UInt8):∀ (i j at_:Nat) (s:List (BitVec 32)),blocksV l (i+j) at_ s=blocksV l j (at_+64*i) (blocksV l i at_ s)
  | 0,j,at_,s=>by simp [blocksV]
  | i+1,j,at_,s=>by
    rw [show i+1+j=(i+j)+1 by omega]
    simp only [blocksV]
    rw [blocks_split l i j (at_+64),show at_+64+64*i=at_+64*(i+1) by omega]
theorem blocks_app (b p:List UInt8):∀ (j at_:Nat) (s:List (BitVec 32)),at_+64*j≤b.length→blocksV (b++p) j at_ s=blocksV b j at_ s
  | 0,_,_,_=>rfl
  | j+1,at_,s,h=>by
    simp only [blocksV]
    rw [List.take_append_of_le_length (by omega),blocks_app b p j (at_+64) _ (by omega)]
theorem blocks_drop (l:List UInt8) (c:Nat):∀ (j at_:Nat) (s:List (BitVec 32)),blocksV (l.drop c) j at_ s=blocksV l j (c+at_) s
  | 0,_,_=>rfl
  | j+1,at_,s=>by
    simp only [blocksV]
    rw [List.take_drop,List.drop_drop,blocks_drop l c j (at_+64),show c+(at_+64)=c+at_+64 by omega]
theorem write_l0 (m n:Nat) (hm:2000≤m) (l:List UInt8) (hl:l.length≤4611686018427387904) (o3:Int) (o4:Bool):∀ (j k at_:Nat) (s:List (BitVec 32)),(l.length-at_) / 64=j→at_≤l.length→j < k→s.length=8 →
    f111_l0 (runE G ext (m+4)) n k (at_:Int) (A s) l o3 o4=some ⟨[],[.agg [.agg (A (blocksV l j at_ s)),.str (l.drop (at_+64*j)),.int o3,.bool o4]],false⟩:=by
  intro j
  induction j with
  | zero =>
    intro k at_ s hj hat hk hs
    obtain ⟨k,rfl⟩:∃ j,k=j+1:=⟨k-1,by omega⟩
    have hb:boundsOk (at_:Int) (l.length:Int) (l.length:Int) (l.length:Int)=true:=by simp [boundsOk]; omega
    rw [f111_l0_eq,w64 (x:=(l.length:Int)-at_) (by omega) (by omega),leI_f (by omega),cond_false,hb,cond_true,Int.toNat_natCast,Int.toNat_natCast,List.take_length]
    rfl
  | succ j ih =>
    intro k at_ s hj hat hk hs
    obtain ⟨k,rfl⟩:∃ j,k=j+1:=⟨k-1,by omega⟩
    have ih':=ih k (at_+64) (mixV s ((l.take (at_+64)).drop at_)) (by omega) (by omega) (by omega) (mixV_len _ _)
    rw [show ((at_+64:Nat):Int)=(at_:Int)+64 by omega] at ih'
    have hb:boundsOk (at_:Int) ((at_:Int)+64) (l.length:Int) (l.length:Int)=true:=by simp [boundsOk]; omega
    rw [f111_l0_eq,w64 (x:=(l.length:Int)-at_) (by omega) (by omega),leI_t (by omega),cond_true,w64 (x:=(at_:Int)+64) (by omega) (by omega),hb,cond_true,Int.toNat_natCast,show ((at_:Int)+64).toNat=at_+64 by omega,
      mix_at m hm hs (by rw [maxLen_eq]; simp; omega),bind_run,nilV_n,consV_c,nilV_n,toAgg_a,ih']
    simp only [blocksV]
    rw [show at_+64+64*j=at_+64*(j+1) by omega]
def stateV (s:List (BitVec 32)) (rest:List UInt8) (n:Int) (on:Bool):AV:=.agg [.agg (A s),.str rest,.int n,.bool on]
theorem write_on (n:Nat) {s:List (BitVec 32)} {rest b:List UInt8} (hs:s.length=8) (hb:rest.length+b.length≤1152921504606846976) (N:Nat) (hN:N+b.length≤1152921504606846976) (hn:rest.length+b.length+3000≤n) :
    runE G ext (n+1) 111 [stateV s rest (N:Int) true,.str b]=some ⟨[],[stateV (blocksV (rest++b) ((rest++b).length / 64) 0 s) ((rest++b).drop (64*((rest++b).length / 64))) ((N+b.length:Nat):Int) true],false⟩:=by
  obtain ⟨m,rfl⟩:∃ m,n=m+4:=⟨n-4,by omega⟩
  unfold stateV
  have e1:IntKind.wrap .u64 ((N:Int)+IntKind.wrap .u64 (b.length:Int))=((N+b.length:Nat):Int):=by rw [wrap64,wrap64]; omega
  have hlen:(rest++b).length=rest.length+b.length:=by simp
  rw [f111_run,f111_eq,not_t,cond_false,show Nat.ble (rest.length+b.length) maxLen=true from Nat.ble_eq_true_of_le (by rw [maxLen_eq]; omega),cond_true,e1]
  have:=write_l0 m (m+4) (by omega) (rest++b) (by omega) ((N+b.length:Nat):Int) true ((rest++b).length / 64) (m+4) 0 s (by simp) (by omega) (by omega) hs
  rw [Nat.zero_add] at this
  exact this
theorem write_off (n:Nat) {b:List UInt8} (l0:List AV) (hb:b.length≤1152921504606846976) (hn:b.length+3000≤n) :
    runE G ext (n+1) 111 [.agg [.agg l0,.str [],.int 0,.bool false],.str b]=some ⟨[],[stateV (blocksV b (b.length / 64) 0 fs) (b.drop (64*(b.length / 64))) (b.length:Int) true],false⟩:=by
  obtain ⟨m,rfl⟩:∃ m,n=m+4:=⟨n-4,by omega⟩
  unfold stateV
  have e1:IntKind.wrap .u64 ((0:Int)+IntKind.wrap .u64 (b.length:Int))=(b.length:Int):=by rw [wrap64,wrap64]; omega
  have hf:runE G ext (m+4) 166 []=some ⟨[.agg (A fs)],[],false⟩:=by
    rw [f166_run,f166_eq,fs_A]; kernel_rfl
  rw [f111_run,f111_eq,not_f,cond_true,hf,bind_run,nilV_n,consV_c,nilV_n,toAgg_a,show Nat.ble (([]:List UInt8).length+b.length) maxLen=true from Nat.ble_eq_true_of_le (by rw [maxLen_eq]; simp; omega),cond_true,e1,List.nil_append]
  have:=write_l0 m (m+4) (by omega) b (by omega) (b.length:Int) true (b.length / 64) (m+4) 0 fs (by simp) (by omega) (by omega) fs_len
  rw [Nat.zero_add] at this
  exact this
def wordB (x:BitVec 32):List UInt8:=bs (x.setWidth 64) 4
def outV (w:List (BitVec 32)):List UInt8:=(w.map wordB).flatten
theorem outV_len:∀ w:List (BitVec 32),(outV w).length=4*w.length
  | []=>rfl
  | x::w=>by
    have:=outV_len w
    unfold outV at this ⊢
    simp only [List.map_cons,List.flatten_cons,List.length_append,List.length_cons,this,wordB,bs_len]
    omega
theorem outV_snoc (w:List (BitVec 32)) (x:BitVec 32):outV (w++[x])=outV w++wordB x:=by simp [outV]
theorem U_set (x:BitVec 32):IntKind.wrap .u64 (U x)=U (x.setWidth 64):=by
  have:=x.isLt
  rw [wrap64]; unfold U; rw [BitVec.toNat_setWidth]; omega
theorem put32_at (m:Nat) (hm:2000≤m) (x:BitVec 32):runE G ext (m+2) 61 [.int (U x)]=some ⟨[.str (wordB x)],[],false⟩:=by
  have h:runE G ext (m+1) 113 [.int (U (x.setWidth 64)),.int 4]=some ⟨[.str (wordB x)],[],false⟩:=put_at m hm _ (m:=4) (by omega)
  rw [f61_run,f61_eq,U_set,h]; rfl
theorem splice_bytes (o x:List UInt8) (k:Nat):bytesOf (splice (ofBytes o) k (ofBytes x))=o.take k++(x++o.drop (k+x.length)):=by
  have e:splice (ofBytes o) k (ofBytes x)=B (o.take k++(x++o.drop (k+x.length))):=by
    simp [splice,ofBytes,B,List.map_take,List.map_drop]
  rw [e,bytesOf_B]
theorem take_get (w:List (BitVec 32)) {i:Nat} (h:i < w.length):w.take (i+1)=w.take i++[w.getD i 0]:=by
  rw [List.take_succ_eq_append_getElem h]; simp [h]
theorem sum_l0 (m n:Nat) (hm:2000≤m) (w:List (BitVec 32)) (hw:w.length=8) (o1:List AV) (o2:List UInt8) (o3:Int) (o4:Bool) (o5:List UInt8):∀ (j k i:Nat),i+j=8→j < k →
    f112_l0 (runE G ext (m+2)) n k (A w) (i:Int) o1 o2 o3 o4 o5 (outV (w.take i)++List.replicate (32-4*i) 0)=some ⟨[.blob (outV w)],[.agg [.agg o1,.str o2,.int o3,.bool o4]],false⟩:=by
  intro j
  induction j with
  | zero =>
    intro k i hi hk
    obtain ⟨k,rfl⟩:∃ j,k=j+1:=⟨k-1,by omega⟩
    rw [Nat.add_zero] at hi
    subst hi
    rw [f112_l0_eq,ltI_f (by omega),cond_false,List.take_of_length_le (by omega),Nat.sub_self,List.replicate_zero,List.append_nil]
    rfl
  | succ j ih =>
    intro k i hi hk
    obtain ⟨k,rfl⟩:∃ j,k=j+1:=⟨k-1,by omega⟩
    have ih':=ih k (i+1) (by omega) (by omega)
    rw [show ((i+1:Nat):Int)=(i:Int)+1 by omega] at ih'
    have hb:boundsOk (4*(i:Int)) (4*(i:Int)+4) (4*(i:Int)+4) 32=true:=by simp [boundsOk]; omega
    have hl:(outV (w.take i)).length=4*i:=by rw [outV_len]; simp; omega
    have hx:(wordB (w.getD i 0)).length=4:=bs_len _ _
    have e:bytesOf (splice (ofBytes (outV (w.take i)++List.replicate (32-4*i) 0)) (4*i) (List.take 4 (ofBytes (wordB (w.getD i 0)))))=outV (w.take (i+1))++List.replicate (32-4*(i+1)) 0:=by
      rw [List.take_of_length_le (l:=ofBytes (wordB (w.getD i 0))) (i:=4) (by unfold ofBytes; rw [List.length_map]; omega),splice_bytes,List.take_append_of_le_length (by omega),List.take_of_length_le (l:=outV (w.take i)) (by omega),take_get w (by omega),outV_snoc,hx,List.append_assoc]
      congr 2
      rw [List.drop_append,List.drop_eq_nil_of_le (by omega),List.nil_append,hl,List.drop_replicate]
      congr 1
      omega
    rw [f112_l0_eq,ltI_t (by omega),cond_true,inR_nat (by omega),cond_true,w64 (x:=4*(i:Int)) (by omega) (by omega),w64 (x:=4*(i:Int)+4) (by omega) (by omega),w64 (x:=(i:Int)+1) (by omega) (by omega),hb,Bool.and_true,cond_true,Int.toNat_natCast,fldA' (by omega),put32_at m hm,bind_run,nilV_n,consV_c,nilV_n,toStr_s,
      show (4*(i:Int)).toNat=4*i by omega,show (4*(i:Int)+4).toNat=4*i+4 by omega,Nat.add_sub_cancel_left,e]
    exact ih'
theorem sum_on (n:Nat) {s:List (BitVec 32)} {rest:List UInt8} (hs:s.length=8) (N:Nat) (hr:rest.length≤1152921504606840000) (hN:N≤1152921504606840000) (hn:rest.length+5000≤n) :
    runE G ext (n+1) 112 [stateV s rest (N:Int) true]=some ⟨[.blob (outV (blocksV (rest++padV N) ((rest++padV N).length / 64) 0 s))],[stateV s rest (N:Int) true],false⟩:=by
  obtain ⟨m,rfl⟩:∃ m,n=m+4:=⟨n-4,by omega⟩
  have hg:gapV N < 64:=by unfold gapV; omega
  have hp:=pad_at (m+1) (by omega) (n:=N) (by omega)
  have hw:=write_on (m+3) (s:=s) (rest:=rest) (b:=padV N) hs (by rw [padV_len]; omega) N (by rw [padV_len]; omega) (by rw [padV_len]; omega)
  unfold stateV at hw ⊢
  rw [f112_run,f112_eq,hp,bind_run,nilV_n,consV_c,nilV_n,toStr_s,hw,bind_run,consV_c,nilV_n,nilV_n]
  have:=sum_l0 (m+2) (m+4) (by omega) (blocksV (rest++padV N) ((rest++padV N).length / 64) 0 s) (blocksV_len _ _ _ _ hs) (A s) rest (N:Int) true (List.replicate 32 0) 8 (m+4) 0 (by omega) (by omega)
  rw [List.take_zero,show outV []=[] from rfl,List.nil_append] at this
  exact this
def hashV (b:List UInt8):List UInt8:=outV (blocksV (b++padV b.length) ((b++padV b.length).length / 64) 0 fs)
theorem hashV_len (b:List UInt8):(hashV b).length=32:=by
  unfold hashV
  rw [outV_len,blocksV_len _ _ _ _ fs_len]
theorem two_steps (b p:List UInt8):blocksV (b.drop (64*(b.length / 64))++p) ((b.drop (64*(b.length / 64))++p).length / 64) 0 (blocksV b (b.length / 64) 0 fs)=blocksV (b++p) ((b++p).length / 64) 0 fs:=by
  have e1:b.drop (64*(b.length / 64))++p=(b++p).drop (64*(b.length / 64)):=by rw [List.drop_append_of_le_length (by omega)]
  have e2:(b++p).length / 64=b.length / 64+((b++p).drop (64*(b.length / 64))).length / 64:=by simp; omega
  rw [e1,e2,blocks_split,blocks_drop,Nat.zero_add,Nat.add_zero,← blocks_app b p (b.length / 64) 0 fs (by omega)]
theorem sha_at (n:Nat) {b:List UInt8} (hb:b.length≤1152921504606840000) (hn:b.length+6000≤n):runE G ext (n+1) 59 [.str b]=some ⟨[.blob (hashV b)],[],false⟩:=by
  obtain ⟨m,rfl⟩:∃ m,n=m+1:=⟨n-1,by omega⟩
  have h0:runE G ext (m+1) 110 []=some ⟨[.agg [.agg (List.replicate 8 (.int 0)),.str [],.int 0,.bool false]],[],false⟩:=by
    rw [f110_run,f110_eq]; rfl
  have h1:=write_off m (b:=b) (List.replicate 8 (.int 0)) (by omega) (by omega)
  have h2:=sum_on m (s:=blocksV b (b.length / 64) 0 fs) (rest:=b.drop (64*(b.length / 64))) (blocksV_len _ _ _ _ fs_len) b.length (by simp; omega) (by omega) (by simp; omega)
  rw [two_steps] at h2
  unfold stateV at h1 h2
  rw [f59_run,f59_eq,h0,bind_run,nilV_n,consV_c,nilV_n]
  have e:runE G ext (m+1) 111 [.agg [.agg ((AV.fld (.agg [.agg (List.replicate 8 (.int 0)),.str [],.int 0,.bool false]) 0).toAgg),.str ((AV.fld (.agg [.agg (List.replicate 8 (.int 0)),.str [],.int 0,.bool false]) 1).toStr),.int ((AV.fld (.agg [.agg (List.replicate 8 (.int 0)),.str [],.int 0,.bool false]) 2).toInt),.bool ((AV.fld (.agg [.agg (List.replicate 8 (.int 0)),.str [],.int 0,.bool false]) 3).toBool)],.str b]=_:=h1
  rw [e,bind_run,consV_c,nilV_n,nilV_n]
  have e2:∀ (x:List AV) (y:List UInt8) (z:Int) (o:Bool),[AV.agg [.agg ((AV.fld (.agg [.agg x,.str y,.int z,.bool o]) 0).toAgg),.str ((AV.fld (.agg [.agg x,.str y,.int z,.bool o]) 1).toStr),.int ((AV.fld (.agg [.agg x,.str y,.int z,.bool o]) 2).toInt),.bool ((AV.fld (.agg [.agg x,.str y,.int z,.bool o]) 3).toBool)]]=[.agg [.agg x,.str y,.int z,.bool o]]:=fun _ _ _ _=>rfl
  rw [e2,h2,bind_run,consV_c,nilV_n,consV_c,nilV_n,toBlob_b]
  rfl
theorem set_bytes {P:List UInt8} (r:Nat) (v:UInt8):(P++List.replicate (r+1) 0).set P.length v=P++[v]++List.replicate r 0:=by
  rw [List.set_append_right _ _ (Nat.le_refl _),Nat.sub_self,List.replicate_succ,List.set_cons_zero,List.append_assoc]; rfl
theorem refSum_l4 (run:Run) (n k0 k2:Nat) (P v:List UInt8) (i:Nat) (hi:i < 8) (hP:P.length=4*i) (hv:v.length=4) (o2:List UInt8) (o3:List AV):∀ (j k c:Nat),c+j=4→j < k →
    f46_l4 run n k0 k2 k (i:Int) v (c:Int) o2 o3 (P++v.take c++List.replicate (32-4*i-c) 0)=f46_l2 run n k0 k2 ((i:Int)+1) o2 o3 (P++v++List.replicate (32-4*(i+1)) 0):=by
  intro j
  induction j with
  | zero =>
    intro k c hc hk
    obtain ⟨k,rfl⟩:∃ j,k=j+1:=⟨k-1,by omega⟩
    rw [Nat.add_zero] at hc
    subst hc
    rw [f46_l4_eq,ltI_f (by omega),cond_false,List.take_of_length_le (by omega),w64 (by omega) (by omega),show 32-4*i-4=32-4*(i+1) by omega]
  | succ j ih =>
    intro k c hc hk
    obtain ⟨k,rfl⟩:∃ j,k=j+1:=⟨k-1,by omega⟩
    have ih':=ih k (c+1) (by omega) (by omega)
    rw [show ((c+1:Nat):Int)=(c:Int)+1 by omega] at ih'
    have hl:(P++v.take c).length=4*i+c:=by simp; omega
    have e:=set_bytes (P:=P++v.take c) (32-4*i-(c+1)) (v.getD c 0)
    rw [show 32-4*i-(c+1)+1=32-4*i-c by omega,hl,List.append_assoc P (v.take c) [v.getD c 0],show v.take c++[v.getD c 0]=v.take (c+1) from by rw [List.take_succ_eq_append_getElem (by omega)]; simp [show c < v.length by omega]] at e
    rw [f46_l4_eq,ltI_t (by omega),cond_true,inR_nat (by omega),cond_true,w64 (x:=4*(i:Int)) (by omega) (by omega),w64 (x:=4*(i:Int)+c) (by omega) (by omega),inR_yes (by omega) (by omega),cond_true,w64 (x:=(c:Int)+1) (by omega) (by omega),show (4*(i:Int)+c).toNat=4*i+c by omega,Int.toNat_natCast,Int.toNat_natCast,UInt8.ofNat_toNat,e]
    exact ih'
theorem refSum_l2 (m n k0:Nat) (hm:2000≤m) (hn:100≤n) (w:List (BitVec 32)) (hw:w.length=8) (o2:List UInt8):∀ (j k i:Nat),i+j=8→j < k →
    f46_l2 (runE G ext (m+2)) n k0 k (i:Int) o2 (A w) (outV (w.take i)++List.replicate (32-4*i) 0)=some ⟨[.blob (outV w)],[],false⟩:=by
  intro j
  induction j with
  | zero =>
    intro k i hi hk
    obtain ⟨k,rfl⟩:∃ j,k=j+1:=⟨k-1,by omega⟩
    rw [Nat.add_zero] at hi
    subst hi
    rw [f46_l2_eq,ltI_f (by omega),cond_false,List.take_of_length_le (by omega),Nat.sub_self,List.replicate_zero,List.append_nil]
    rfl
  | succ j ih =>
    intro k i hi hk
    obtain ⟨k,rfl⟩:∃ j,k=j+1:=⟨k-1,by omega⟩
    have ih':=ih k (i+1) (by omega) (by omega)
    rw [show ((i+1:Nat):Int)=(i:Int)+1 by omega,take_get w (by omega),outV_snoc] at ih'
    have hl:(outV (w.take i)).length=4*i:=by rw [outV_len]; simp; omega
    have hp:runE G ext (m+2) 99 [.int (U ((w.getD i 0).setWidth 64)),.int 4]=some ⟨[.str (wordB (w.getD i 0))],[],false⟩:=refPut_at m hm _ (m:=4) (by omega)
    have h4:=refSum_l4 (runE G ext (m+2)) n k0 k (outV (w.take i)) (wordB (w.getD i 0)) i (by omega) hl (bs_len _ _) o2 (A w) 4 n 0 (by omega) (by omega)
    rw [List.take_zero,List.append_nil,Nat.sub_zero] at h4
    rw [f46_l2_eq,ltI_t (by omega),cond_true,inR_nat (by omega),cond_true,Int.toNat_natCast,fldA' (by omega),U_set,hp,bind_run,nilV_n,consV_c,nilV_n,toStr_s]
    exact h4.trans ih'
theorem refSum_l0 (m n:Nat) (hm:2000≤m) (hn:100≤n) (l:List UInt8) (Q:Nat) (hl:l.length=64*Q) (hQ:Q≤100000000000000000) (o2:List UInt8):∀ (j k i:Nat) (s:List (BitVec 32)),i+j=Q→j < k→s.length=8 →
    f46_l0 (runE G ext (m+4)) n k l ((64*i:Nat):Int) o2 (A s)=some ⟨[.blob (outV (blocksV l j (64*i) s))],[],false⟩:=by
  intro j
  induction j with
  | zero =>
    intro k i s hi hk hs
    obtain ⟨k,rfl⟩:∃ j,k=j+1:=⟨k-1,by omega⟩
    rw [f46_l0_eq,ltI_f (by omega),cond_false]
    have:=refSum_l2 (m+2) n k (by omega) hn s hs o2 8 n 0 (by omega) (by omega)
    rw [List.take_zero,show outV []=[] from rfl,List.nil_append] at this
    exact this
  | succ j ih =>
    intro k i s hi hk hs
    obtain ⟨k,rfl⟩:∃ j,k=j+1:=⟨k-1,by omega⟩
    have ih':=ih k (i+1) (mixV s ((l.take (64*i+64)).drop (64*i))) (by omega) (by omega) (mixV_len _ _)
    rw [show 64*(i+1)=64*i+64 by omega,show ((64*i+64:Nat):Int)=((64*i:Nat):Int)+64 by omega] at ih'
    have hb:boundsOk ((64*i:Nat):Int) (((64*i:Nat):Int)+64) (l.length:Int) (l.length:Int)=true:=by simp [boundsOk]; omega
    rw [f46_l0_eq,ltI_t (by omega),cond_true,w64 (x:=((64*i:Nat):Int)+64) (by omega) (by omega),hb,cond_true,Int.toNat_natCast,show (((64*i:Nat):Int)+64).toNat=64*i+64 by omega,
      refMix_at m hm hs (by rw [maxLen_eq]; simp; omega),bind_run,nilV_n,consV_c,nilV_n,toAgg_a,ih']
    rfl
theorem refSha_at (n:Nat) {b:List UInt8} (hb:b.length≤1152921504606840000) (hn:b.length+6000≤n):runE G ext (n+1) 46 [.str b]=some ⟨[.blob (hashV b)],[],false⟩:=by
  obtain ⟨m,rfl⟩:∃ m,n=m+4:=⟨n-4,by omega⟩
  have hg:gapV b.length < 64:=by unfold gapV; omega
  have hf:runE G ext (m+4) 96 []=some ⟨[.agg (A fs)],[],false⟩:=by
    rw [f96_run,f96_eq,fs_A]; kernel_rfl
  have hp:=refPad_at (m+1) (by omega) (n:=b.length) (by omega)
  have hlen:(b++padV b.length).length=b.length+(gapV b.length+9):=by rw [List.length_append,padV_len]
  have hmod:(b.length+(gapV b.length+9)) % 64=0:=by unfold gapV; omega
  have e1:IntKind.wrap .u64 (b.length:Int)=(b.length:Int):=by rw [wrap64]; omega
  rw [f46_run,f46_eq,hf,bind_run,nilV_n,consV_c,nilV_n,e1,hp,bind_run,nilV_n,consV_c,nilV_n,toStr_s,toAgg_a,show Nat.ble (b.length+(padV b.length).length) maxLen=true from Nat.ble_eq_true_of_le (by rw [maxLen_eq,padV_len]; omega),cond_true]
  unfold hashV
  exact refSum_l0 m (m+4) (by omega) (by omega) (b++padV b.length) ((b++padV b.length).length / 64) (by omega) (by omega) _ _ (m+4) 0 fs (by omega) (by omega) fs_len
end Go.Proofs.YtlkkebfjmbfgpaaGreatDoor.Ev

namespace Go.Proofs.YtlkkebfjmbfgpaaGreatDoor.Ev
open Go Go.RowKit
def wR0:List UInt8:=[198,192,170,7,242,116,147,210,242,229,207,245,108,137,10,53,58,32,8,109,108,37,236,130,81,40,225,42,231,82,178,217]
def wIdg:List UInt8:=[226,70,65,205,97,233,136,237,107,153,212,216,98,31,17,219,123,4,75,126,124,30,73,218,93,224,26,138,185,176,61,231]
def wL1:List UInt8:=[135,128,56,3,211,251,237,222,177,155,95,89,114,91,35,195,26,220,158,11,244,188,61,171,232,240,10,38,107,206,221,133]
def wT1:List UInt8:=[36,121,71,253,143,50,32,175,212,62,212,85,25,164,63,154,19,209,75,7,29,81,182,28,142,152,63,23,185,252,120,157]
def wIdb:List UInt8:=[215,182,109,254,253,178,223,58,73,153,37,53,237,143,184,37,89,218,146,206,183,239,69,252,0,195,3,242,90,214,82,106]
def wLg:List UInt8:=[130,74,50,117,85,86,230,50,26,120,91,227,137,120,141,80,118,106,226,44,196,188,105,187,2,33,113,230,184,152,121,59]
def wLa:List UInt8:=[64,160,95,75,39,136,219,37,245,189,146,0,111,126,95,159,234,162,75,63,2,50,165,105,243,83,231,197,7,99,43,233]
def wG:AV:=.agg [.int 0,.blob wR0,.blob wR0,.int 0]
def wB:AV:=.agg [.int 1,.blob wL1,.blob wT1,.int 0]
def wFull:List UInt8:=List.replicate 32 255
def wC:AV:=.agg [wG,.blob wFull,.int 1,.int 1,.int 1,.int 2,.int 4,.int 2]
def wSteps:List AV:=[.agg [wG,.agg [.int 0,.int 0,.slice []]],.agg [wB,.agg [.int 0,.int 1,.slice []]]]
def wChain:List AV:=[.agg [wG,.slice []],.agg [wB,.slice [.str [97]]]]
def wBytes:List UInt8:=[2,0,0,0,0,198,192,170,7,242,116,147,210,242,229,207,245,108,137,10,53,58,32,8,109,108,37,236,130,81,40,225,42,231,82,178,217,198,192,170,7,242,116,147,210,242,229,207,245,108,137,10,53,58,32,8,109,108,37,236,130,81,40,225,42,231,82,178,217,0,0,0,0,0,0,0,0,0,0,0,0,1,135,128,56,3,211,251,237,222,177,155,95,89,114,91,35,195,26,220,158,11,244,188,61,171,232,240,10,38,107,206,221,133,36,121,71,253,143,50,32,175,212,62,212,85,25,164,63,154,19,209,75,7,29,81,182,28,142,152,63,23,185,252,120,157,0,0,0,0,0,0,0,0,1,0]
def shaTab:List (List UInt8 × List UInt8):=[([2,0,0,0,0,0,0,0,0,0,0,0,0,0,0,0,0,0,0,0,0,0,0,0,0,0,0,0,0,0,0,0,0,0,0,0,0,0,0,0,0],wR0),([3,0,0,0,0,198,192,170,7,242,116,147,210,242,229,207,245,108,137,10,53,58,32,8,109,108,37,236,130,81,40,225,42,231,82,178,217,198,192,170,7,242,116,147,210,242,229,207,245,108,137,10,53,58,32,8,109,108,37,236,130,81,40,225,42,231,82,178,217,0,0,0,0,0,0,0,0],wIdg),([0,76,226,70,65,205,97,233,136,237,107,153,212,216,98,31,17,219,123,4,75,126,124,30,73,218,93,224,26,138,185,176,61,231],wLg),([2,0,0,0,0,0,0,0,1,130,74,50,117,85,86,230,50,26,120,91,227,137,120,141,80,118,106,226,44,196,188,105,187,2,33,113,230,184,152,121,59],wL1),([0,84,97],wLa),([2,0,0,0,0,0,0,0,1,64,160,95,75,39,136,219,37,245,189,146,0,111,126,95,159,234,162,75,63,2,50,165,105,243,83,231,197,7,99,43,233],wT1),([3,0,0,0,1,135,128,56,3,211,251,237,222,177,155,95,89,114,91,35,195,26,220,158,11,244,188,61,171,232,240,10,38,107,206,221,133,36,121,71,253,143,50,32,175,212,62,212,85,25,164,63,154,19,209,75,7,29,81,182,28,142,152,63,23,185,252,120,157,0,0,0,0,0,0,0,0],wIdb)]
end Go.Proofs.YtlkkebfjmbfgpaaGreatDoor.Ev

namespace Go.Proofs.YtlkkebfjmbfgpaaGreatDoor.Ev
open Go Go.RowKit
def eqB:List UInt8→List UInt8→Bool
  | [],[]=>true
  | a::r,b::s=>Nat.beq a.toNat b.toNat&&eqB r s
  | _,_=>false
theorem eqB_eq:∀ {a b:List UInt8},eqB a b=true→a=b
  | [],[],_=>rfl
  | [],_::_,h=>by cases h
  | _::_,[],h=>by cases h
  | a::r,b::s,h=>by
    simp only [eqB,Bool.and_eq_true] at h
    rw [UInt8.toNat_inj.1 (Nat.eq_of_beq_eq_true h.1),eqB_eq h.2]
def shaFind (s:List UInt8):List (List UInt8 × List UInt8)→Option (List UInt8)
  | []=>none
  | (t,d)::r=>bif eqB t s then some d else shaFind s r
def shaX:List AV→Option Res
  | [s]=>(shaFind s.toStr shaTab).map fun d=>⟨[.blob d],[],false⟩
  | _=>none
theorem shaFind_eq {s d:List UInt8}:∀ {l:List (List UInt8 × List UInt8)},(∀ p∈l,hashV p.1=p.2)→shaFind s l=some d→hashV s=d
  | [],_,h=>by cases h
  | (t,e)::r,hl,h=>by
    simp only [shaFind] at h
    cases hb:eqB t s with
    | true =>
      rw [hb,cond_true] at h
      cases h
      rw [← eqB_eq hb]
      exact hl (t,d) (by simp)
    | false=>rw [hb,cond_false] at h; exact shaFind_eq (fun p hp=>hl p (by simp [hp])) h
theorem shaTab_ok:∀ p∈shaTab,hashV p.1=p.2:=by
  have h:shaTab.all (fun p=>eqB (hashV p.1) p.2)=true:=by kernel_rfl
  intro p hp
  exact eqB_eq (List.all_eq_true.1 h p hp)
def extL2:List (FuncId × (List AV→Option Res)) :=
  (59,shaX)::(46,shaX)::(55,sidesX)::(125,placesX)::(312,countX)::(164,joinX)::[]
def ext2:Run:=fun f xs=>(assoc extL2 f).bind fun g=>g xs
end Go.Proofs.YtlkkebfjmbfgpaaGreatDoor.Ev

namespace Go.Proofs.YtlkkebfjmbfgpaaGreatDoor.Ev
open Go Go.RowKit
mutual
def eqV:AV→AV→Bool
  | .bool a,.bool b=>(a&&b) || (!a&&!b)
  | .int a,.int b=>decide (a=b)
  | .str a,.str b=>eqB a b
  | .blob a,.blob b=>eqB a b
  | .agg a,.agg b=>eqVs a b
  | .slice a,.slice b=>eqVs a b
  | _,_=>false
def eqVs:List AV→List AV→Bool
  | [],[]=>true
  | a::r,b::s=>eqV a b&&eqVs r s
  | _,_=>false
end
mutual
theorem eqV_eq:∀ {a b:AV},eqV a b=true→a=b
  | .bool a,b,h=>by cases b <;> simp only [eqV] at h <;> first | (cases h; done) | (rename_i c; cases a <;> cases c <;> first | rfl | cases h)
  | .int a,b,h=>by cases b <;> simp only [eqV] at h <;> first | (cases h; done) | (rw [of_decide_eq_true h])
  | .str a,b,h=>by cases b <;> simp only [eqV] at h <;> first | (cases h; done) | (rw [eqB_eq h])
  | .blob a,b,h=>by cases b <;> simp only [eqV] at h <;> first | (cases h; done) | (rw [eqB_eq h])
  | .agg a,b,h=>by cases b <;> simp only [eqV] at h <;> first | (cases h; done) | (rw [eqVs_eq h])
  | .slice a,b,h=>by cases b <;> simp only [eqV] at h <;> first | (cases h; done) | (rw [eqVs_eq h])
  | .bot,b,h=>by cases b <;> simp [eqV] at h
  | .fn _,b,h=>by cases b <;> simp [eqV] at h
  | .clo _ _,b,h=>by cases b <;> simp [eqV] at h
theorem eqVs_eq:∀ {a b:List AV},eqVs a b=true→a=b
  | [],[],_=>rfl
  | [],_::_,h=>by simp [eqVs] at h
  | _::_,[],h=>by simp [eqVs] at h
  | a::r,b::s,h=>by
    simp only [eqVs,Bool.and_eq_true] at h
    rw [eqV_eq h.1,eqVs_eq h.2]
end
abbrev Tab:=List (FuncId × (List AV × Res))
def memoT:Tab→Run
  | [],_,_=>none
  | (g,(ys,r))::T,f,xs=>bif Nat.beq g f&&eqVs ys xs then some r else memoT T f xs
noncomputable def runM (T:Tab):Nat→Run
  | 0=>fun f xs=>match memoT T f xs with
    | some r=>some r
    | none=>ext2 f xs
  | n+1=>fun f xs=>match memoT T f xs with
    | some r=>some r
    | none=>match assoc G2.fns f with
      | none=>ext2 f xs
      | some i=>bif i.ext then ext2 f xs else evalK G2 (runM T n) n i.keep 0 i.body (retE G2 i) (i.start xs)
def TabOk (T:Tab):Prop:=∀ f xs r,memoT T f xs=some r→∀ i,assoc G2.fns f=some i→Sat Tryz.prog i f xs r
theorem tab_nil:TabOk []:=fun _ _ _ h=>by cases h
theorem tab_cons {f:FuncId} {xs:List AV} {r:Res} {i:FnInfo} {T:Tab} (hi:assoc G2.fns f=some i) (h:Sat Tryz.prog i f xs r) (hT:TabOk T):TabOk ((f,(xs,r))::T):=by
  intro g ys q hm j hj
  simp only [memoT] at hm
  cases hb:Nat.beq f g&&eqVs xs ys with
  | true =>
    rw [hb,cond_true] at hm
    cases hm
    simp only [Bool.and_eq_true] at hb
    have e:=Nat.eq_of_beq_eq_true hb.1
    subst e
    rw [hi] at hj
    cases hj
    rw [← eqVs_eq hb.2]
    exact h
  | false=>rw [hb,cond_false] at hm; exact hT g ys q hm j hj
def Ext2Ok:Prop:=∀ f i xs r,assoc G2.fns f=some i→ext2 f xs=some r→Sat Tryz.prog i f xs r
theorem runM_ok {T:Tab} (hE:Ext2Ok) (hT:TabOk T):∀ n,FnsOk Tryz.prog G2 (runM T n)
  | 0=>by
    refine ⟨fun f i e=>?_,fun f i xs r e h=>?_⟩
    · obtain ⟨fn,h⟩:=fns2_ok.get e
      exact ⟨fn,h.at_,h.name,by rw [h.body]; rfl⟩
    · simp only [runM] at h
      split at h
      · rename_i r' hm
        cases h
        exact hT f xs r hm i e
      · exact hE f i xs r e h
  | n+1=>by
    have ih:=runM_ok hE hT n
    refine ⟨ih.fn,fun f i xs r e hk=>?_⟩
    obtain ⟨fn,h⟩:=fns2_ok.get e
    simp only [runM,e] at hk
    split at hk
    · rename_i r' hm
      cases hk
      exact hT f xs r hm i e
    · cases hx:i.ext with
      | true =>
        rw [hx,cond_true] at hk
        exact hE f i xs r e hk
      | false =>
        rw [hx,cond_false] at hk
        exact fn_sat types2_ok ih h hk
theorem sat_by {T:Tab} {f:FuncId} {i:FnInfo} {fn:Func} {xs:List AV} {r:Res} (n:Nat) (hE:Ext2Ok) (hT:TabOk T) (hi:FnOk Tryz.prog f i fn) (h:evalK G2 (runM T n) n i.keep 0 i.body (retE G2 i) (i.start xs)=some r):Sat Tryz.prog i f xs r :=
  fn_sat types2_ok (runM_ok hE hT n) hi h
end Go.Proofs.YtlkkebfjmbfgpaaGreatDoor.Ev

namespace Go.Proofs.YtlkkebfjmbfgpaaGreatDoor.Ev
open Go Go.RowKit
theorem str_back {S0:Snap} {w0 w:World} {l:List UInt8} (ha:∀ p v,S0 p=some v→w0.cell? p=some v) (hb:Below w0.heap.size w0 w) (hl:l.length≤maxLen) :
    ∃ S v,(Ending.returned (.string ⟨l.toArray⟩))=.returned v∧S0.le S∧(∀ p u,S p=some u→S0 p=some u∨w0.heap.size≤p.block)∧(∀ p u,S p=some u→w.cell? p=some u) ∧
      Keep w0.heap.size [] w0 w∧ResRel S w w0.heap.size [.val .str] ⟨[.str l],[],false⟩ v∧OutsRel S w [] [] []:=by
  refine ⟨S0,_,rfl,Snap.le_refl _,fun p u h=>.inl h,fun p u h=>?_,keep_of_below hb,⟨.str l,rfl,⟨[.string ⟨l.toArray⟩],(val_one rfl _).symm,l,rfl,rfl,hl⟩,fun h=>by cases h⟩,rfl,rfl⟩
  have h1:=ha p u h
  exact (hb.cell (cell_parts h1).2).trans h1
theorem join_sat {xs:List AV} {r:Res} (h:joinX xs=some r):Sat Tryz.prog f164_info 164 xs r:=by
  intro S0 w0 vs bs ha hargs _
  obtain ⟨v1,vs1,x1,xs1,rfl,rfl,hv1,v2,vs2,x2,xs2,rfl,rfl,hv2,rfl,rfl,rfl⟩:=hargs
  obtain ⟨cs1,rfl,a,len,cap,es,rfl,rfl,hlen,hlc,hcap,hc0,hes⟩:=hv1
  obtain ⟨cs2,rfl,s,rfl,rfl,hs⟩:=hv2
  unfold joinX at h
  simp only [toSlice_s,toStr_s] at h
  cases hb:Nat.ble es.length 1048576&&Nat.ble (Lib.join (es.map AV.toStr) s).length 140737488355328 with
  | false=>rw [hb] at h; cases h
  | true =>
  rw [hb,cond_true] at h
  cases h
  simp only [Bool.and_eq_true] at hb
  have hb1:=Nat.le_of_ble_eq_true hb.1
  have hb2:=Nat.le_of_ble_eq_true hb.2
  rw [val_one rfl,val_one rfl]
  have hj:(Lib.join (es.map AV.toStr) s).length≤maxLen:=by rw [maxLen_eq]; omega
  cases es with
  | nil =>
    obtain rfl:len=0:=by simpa using hlen.symm
    refine (Tryz.strings_Join_none a cap ⟨s.toArray⟩ w0).mono fun e w' ⟨he,hw⟩=>?_
    subst he
    subst hw
    have:=str_back (l:=[]) ha (Below.refl _ w') (by simp)
    exact this
  | cons y0 er =>
    have hget:∀ (i:Nat) y,(y0::er)[i]?=some y→∀ p,a=some p→w0.cell? (p.add i)=some (.string ⟨y.toStr.toArray⟩):=by
      intro i y hi p hp
      obtain ⟨ds,h1,h2,h3⟩:=hes p hp i y hi
      obtain ⟨t,rfl,rfl,_⟩:=h3
      have:=h1 0 _ rfl
      rw [show (p.add (i*Ty.size .str)).add 0=p.add i by simp [Addr.add,Ty.size]] at this
      exact ha _ _ this
    obtain ⟨p,rfl⟩:∃ p,a=some p:=by
      cases a with
      | some p=>exact ⟨p,rfl⟩
      | none =>
        have:=hc0 rfl
        simp at hlen
        omega
    have h0:=cell_parts (hget 0 y0 rfl p rfl)
    have hp0:p.add 0=p:=by simp [Addr.add]
    rw [hp0] at h0
    have hpe:p=⟨p.block,p.off,none⟩:=by
      cases p
      simp at h0
      simp [h0.1]
    have e1:((y0::er).map fun y=>(⟨y.toStr.toArray⟩:ByteArray)).map (·.data.toList)=(y0::er).map AV.toStr:=by
      rw [List.map_map]
      apply List.map_congr_left
      intro y _
      simp
    have e2:((⟨s.toArray⟩:ByteArray).data.toList)=s:=by simp
    have hJ:=Tryz.strings_Join p.block p.off cap ((y0::er).map fun y=>(⟨y.toStr.toArray⟩:ByteArray)) ⟨s.toArray⟩ w0 (by
        intro j x hx
        rw [List.getElem?_map] at hx
        cases hy:(y0::er)[j]? with
        | none=>rw [hy] at hx; cases hx
        | some y =>
          rw [hy] at hx
          cases hx
          have:=hget j y hy p rfl
          rw [← this]
          congr 1
          rw [hpe]
          unfold Addr.add
          split
          · rename_i h; subst h; rfl
          · rfl) h0.2 (by rw [List.length_map]; omega) (by rw [List.length_map]; omega) (by rw [e1,e2]; exact hb2)
    rw [e1,e2,List.length_map,hlen,← hpe] at hJ
    refine hJ.mono fun e w' ⟨he,hw⟩=>?_
    subst he
    exact str_back ha hw hj
theorem repeat_sat {xs:List AV} {r:Res} (h:repeatX xs=some r):Sat Tryz.prog f216_info 216 xs r:=by
  intro S0 w0 vs bs ha hargs _
  obtain ⟨v1,vs1,x1,xs1,rfl,rfl,hv1,v2,vs2,x2,xs2,rfl,rfl,hv2,rfl,rfl,rfl⟩:=hargs
  obtain ⟨cs1,rfl,s,rfl,rfl,hs⟩:=hv1
  obtain ⟨cs2,rfl,n,rfl,rfl,_⟩:=hv2
  unfold repeatX at h
  simp only [toInt_i,toStr_s] at h
  cases hb:leI 0 n&&ltI n 1048576&&Nat.ble s.length 1048576 with
  | false=>rw [hb] at h; cases h
  | true =>
  rw [hb,cond_true] at h
  cases h
  simp only [Bool.and_eq_true] at hb
  have h0:=leI_iff.1 hb.1.1
  have h1:=ltI_iff.1 hb.1.2
  have h2:=Nat.le_of_ble_eq_true hb.2
  rw [val_one rfl,val_one rfl]
  obtain ⟨c,rfl⟩:∃ c:Nat,n=c:=⟨n.toNat,by omega⟩
  have hc:c≤1048576:=by omega
  have hm:s.length*c≤1048576*1048576:=Nat.mul_le_mul h2 hc
  have hR:=Tryz.strings_Repeat ⟨s.toArray⟩ c w0 (by omega) (by show s.toArray.size*c≤_; rw [List.size_toArray]; omega)
  refine hR.mono fun e w' ⟨he,hw⟩=>?_
  subst he
  have e2:((⟨s.toArray⟩:ByteArray).data.toList)=s:=by simp
  rw [e2,Int.toNat_natCast]
  exact str_back ha hw (by rw [Lib.repeatL_length,Nat.mul_comm,maxLen_eq]; omega)
inductive AllSat:List (FuncId × (List AV→Option Res))→Prop
  | nil:AllSat []
  | cons {f:FuncId} {g:List AV→Option Res} {l:List (FuncId × (List AV→Option Res))} {i:FnInfo} (hi:assoc G.fns f=some i) (h:∀ xs r,g xs=some r→Sat Tryz.prog i f xs r) (hl:AllSat l):AllSat ((f,g)::l)
theorem AllSat.at {l:List (FuncId × (List AV→Option Res))} (h:AllSat l):∀ f g i xs r,assoc G.fns f=some i→assoc l f=some g→g xs=some r→Sat Tryz.prog i f xs r:=by
  induction h with
  | nil=>intro f g i xs r _ e; cases e
  | @cons f0 g0 l i0 hi0 h0 _ ih =>
    intro f g i xs r hi e hr
    simp only [assoc] at e
    cases hb:Nat.beq f0 f with
    | false=>rw [hb,cond_false] at e; exact ih f g i xs r hi e hr
    | true =>
      have:f0=f:=Nat.eq_of_beq_eq_true hb
      subst this
      rw [hb,cond_true] at e
      cases e
      rw [hi0] at hi
      cases hi
      exact h0 xs r hr
theorem ext_all:AllSat extL :=
  .cons f216_at (fun _ _ h=>repeat_sat h) <|
  .cons f55_at (fun _ _ h=>sides_sat h) <|
  .cons f4_at (fun _ _ h=>awake_told h) <|
  .cons f312_at (fun _ _ h=>count_sat h) <|
  .cons f164_at (fun _ _ h=>join_sat h) <|
  .nil
theorem ext_sat:∀ f i xs r,assoc G.fns f=some i→ext f xs=some r→Sat Tryz.prog i f xs r:=by
  intro f i xs r hi h
  unfold ext at h
  cases hg:assoc extL f with
  | none=>rw [hg] at h; cases h
  | some g=>rw [hg] at h; exact ext_all.at f g i xs r hi hg h
theorem sat_of_runsX {f:FuncId} {i:FnInfo} {xs:List AV} {r:Res} (hi:assoc G.fns f=some i) (h:RunsX f xs r):Sat Tryz.prog i f xs r:=by
  obtain ⟨n,h⟩:=h.ex
  exact (runE_sound types_ok fns_ok ext_sat n).sat f i xs r hi h
end Go.Proofs.YtlkkebfjmbfgpaaGreatDoor.Ev

namespace Go.Proofs
open Go.RowKit Go.Shelf
attribute [local go_sem] Oper.semAt_some
theorem Tryz.own_base {w:World} {B B' e sz k:Nat} {v:Value} {xs:List Value} (h:w.ownsRow B e sz v k xs) (hb:B'≤B):w.ownsRow B' e sz v k xs:=by
  refine ⟨h.1,?_⟩
  rcases h.2 with h2 | ⟨g,cap,cur,e1,e2,e3⟩
  · exact .inl h2
  · exact .inr ⟨g,cap,cur,e1,Nat.le_trans hb e2,e3⟩
theorem Tryz.info_int:(Tryz.prog.info? 3).map (fun i=>(i.zero,i.size,i.bytes))=some (some (.int .i64 0),1,8):=by kernel_rfl
theorem Tryz.own_cell {w:World} {base e k cap g:Nat} {xs:List Value} (h:w.ownsRow base e 1 (.slice (some ⟨g,0,none⟩) k cap) k xs):∀ j u,xs[j]?=some u→w.cell? ((⟨g,0,none⟩:Addr).add j)=some u:=by
  rcases h.2 with ⟨e,_⟩ | ⟨g2,cap2,cur,e,_,hb,h1,h2,h3,h4⟩
  · cases e
  · cases e
    intro j u hj
    rw [← h4,List.getElem?_take] at hj
    split at hj
    · have e:(⟨g,0,none⟩:Addr).add j=⟨g,j,none⟩:=by unfold Addr.add; split <;> simp_all
      rw [e]
      simp [World.cell?,hb]
      simpa using hj
    · cases hj
theorem Tryz.places_back {w3 W w1:World} {o:Obj} {ad:Option Addr} {n0 ln b off cp g2 cap2 k:Nat} {level:Int} {zs:List Int} {pre:List Int} {x:Int} {row:Option Nat} {v:Value}
    (h1:n0+1 < w3.heap.size) (h3:n0+3 < w3.heap.size) (hsz:w3.heap.size=n0+4) (hb:0 < ln→b < n0) (hB:Below n0 w3 W) (hv2:Boxed w1 n0 80 v) (hgrow:(W.alloc o).grownBy w1 row)
    (hrow:∀ j,row=some j→w3.heap.size≤j∧∃ o',(W.alloc o).heap[j]?=some o'∧o'.isCells=true) (hk:k+1=(pre++[x]).length)
    (hown:w1.ownsRow w3.heap.size 3 1 (.slice (some ⟨g2,0,none⟩) (k+1) cap2) (k+1) ((pre++[x]).map (Value.int .i64))) :
    KeepsFrom w3.heap.size W (w1.setCell ⟨n0,0,none⟩ (.slice (some ⟨g2,0,none⟩) (k+1) cap2)) ∧
    (GoodW (n0+1) (n0+1+1+1) ad b off ln cp level zs W→GoodW (n0+1) (n0+1+1+1) ad b off ln cp level zs (w1.setCell ⟨n0,0,none⟩ (.slice (some ⟨g2,0,none⟩) (k+1) cap2))) ∧
    (∃ v,Boxed (w1.setCell ⟨n0,0,none⟩ (.slice (some ⟨g2,0,none⟩) (k+1) cap2)) n0 80 v∧(w1.setCell ⟨n0,0,none⟩ (.slice (some ⟨g2,0,none⟩) (k+1) cap2)).ownsRow w3.heap.size 3 1 v (pre++[x]).length ((pre++[x]).map (Value.int .i64))∧(v=.slice none 0 0 ↔ pre++[x]=[]))∧Below n0 w3 (w1.setCell ⟨n0,0,none⟩ (.slice (some ⟨g2,0,none⟩) (k+1) cap2)):=by
  have hsz1:=hB.size
  have hbl:Below n0 W (w1.setCell ⟨n0,0,none⟩ (.slice (some ⟨g2,0,none⟩) (k+1) cap2)):=(((Below.refl n0 W).alloc (by omega) _).grown hgrow (by simp; omega) (fun j ej=>by have:=(hrow j ej).1; omega)).setCell (p:=⟨n0,0,none⟩) (Nat.le_refl _) _
  have hko:KeepsOthers W (w1.setCell ⟨n0,0,none⟩ (.slice (some ⟨g2,0,none⟩) (k+1) cap2)):=((KeepsOthers.alloc W _).trans (KeepsOthers.of_grownBy hgrow fun j o' ej hj=>by
    obtain ⟨o2,h5,h6⟩:=(hrow j ej).2
    rw [h5] at hj
    cases hj; exact h6)).trans (KeepsOthers.setCell _ _ _)
  have hkeep:∀ (B:Nat) (f:Nat),B≠n0→B < w3.heap.size→(w1.setCell ⟨n0,0,none⟩ (.slice (some ⟨g2,0,none⟩) (k+1) cap2)).cell? ⟨B,f,none⟩=W.cell? ⟨B,f,none⟩:=by
    intro B f hne hlt
    have e:(w1.setCell ⟨n0,0,none⟩ (.slice (some ⟨g2,0,none⟩) (k+1) cap2)).heap[B]?=W.heap[B]?:=by
      rw [(grownBy_setCell' w1 n0 _).block B (by
        have:=(World.grownBy_alloc W o none).size
        have:=hgrow.size
        omega) (by simpa using hne)]
      rw [hgrow.block B (by have:=(World.grownBy_alloc W o none).size; omega) (fun e=>by have:=(hrow _ e.symm).1; omega)]
      exact (World.grownBy_alloc W o none).block B (by omega) (by simp)
    unfold World.cell?
    rw [e]
  refine ⟨hko.from _,?_,⟨_,hv2.set _,?_,?_⟩,hB.trans hbl⟩
  · intro g
    exact ⟨(hkeep _ _ (by omega) (by omega)).trans g.c0,(hkeep _ _ (by omega) (by omega)).trans g.c2,fun j hj=>(hkeep _ _ (by have:=hb (by omega); omega) (by have:=hb (by omega); omega)).trans (g.cs j hj)⟩
  · rw [← hk]
    refine hown.kept (grownBy_setCell' w1 n0 _) (.inr ?_)
    rcases hown.2 with ⟨e,_⟩ | ⟨g,cap,cur,e,hg,_⟩
    · cases e
    · cases e
      simp [Value.ownBlock]
      omega
  · simp
set_option maxRecDepth 100000 in
set_option maxHeartbeats 2000000 in
theorem Tryz.places_in (m:Nat) (hm:1≤m) (ad:Option Addr) (b off ln cp s:Nat) (had:ad=some ⟨b,off,none⟩∨ln=0) (from_ level:Int) (zs:List Int) (hreach:ln≤1000000000) (hs:max from_ 0=s) (hs2:s≤9223372036854775807) (w:World) (hb:0 < ln→b < w.heap.size)
    (hc:∀ j,j < ln→w.cell? ⟨b,off+j,none⟩=some (.int .i64 (zs[j]?.getD 0))) :
    CallsIn Fence.wide m Tryz.prog 125 #[.slice ad ln cp,.int .i64 from_,.int .i64 level] w fun e W'=>∃ v,e=.returned v∧W'.ownsRow w.heap.size 3 1 v (Tryz.hits zs s level ln).length ((Tryz.hits zs s level ln).map (Value.int .i64))∧Below w.heap.size w W':=by
  obtain ⟨i0,hi,hz0,hz1,hz2⟩:=info_parts Tryz.info_int
  refine callsIn_of_wp_marks Tryz.func125 rfl trivial ?_ rfl
  simp only [Tryz.ntmps125,List.size_toArray,List.length_cons,List.length_nil,Nat.reduceAdd,Nat.reduceSub,Array.replicate_succ,Array.replicate_zero,List.push_toArray,List.append_toArray,List.nil_append,List.cons_append]
  gi_wp2_with (refine ⟨trivial,(Tryz.each_in (m-1) _ _ _ _ _ _).mono ?_⟩; rintro e w1 ⟨rfl,rfl⟩)
  generalize hw3:((((w.alloc (.cells #[.slice none 0 0] 80)).alloc (.cells #[.slice ad ln cp] 80)).alloc (.cells #[.int .i64 from_] 3)).alloc (.cells #[.int .i64 level] 3))=w3
  have bO:Boxed w3 w.heap.size 80 (.slice none 0 0):=by rw [← hw3]; exact ((((Boxed.new w 80 (.slice none 0 0)).alloc _).alloc _).alloc _)
  have b0:Boxed w3 (w.heap.size+1) 80 (.slice ad ln cp):=by
    rw [← hw3]
    have:=Boxed.new (w.alloc (.cells #[.slice none 0 0] 80)) 80 (.slice ad ln cp)
    simp only [World.size_alloc] at this
    exact (this.alloc _).alloc _
  have b1:Boxed w3 (w.heap.size+1+1) 3 (.int .i64 from_):=by
    rw [← hw3]
    have:=Boxed.new ((w.alloc (.cells #[.slice none 0 0] 80)).alloc (.cells #[.slice ad ln cp] 80)) 3 (.int .i64 from_)
    simp only [World.size_alloc] at this
    exact this.alloc _
  have b2:Boxed w3 (w.heap.size+1+1+1) 3 (.int .i64 level):=by
    rw [← hw3]
    have:=Boxed.new (((w.alloc (.cells #[.slice none 0 0] 80)).alloc (.cells #[.slice ad ln cp] 80)).alloc (.cells #[.int .i64 from_] 3)) 3 (.int .i64 level)
    simp only [World.size_alloc] at this
    exact this
  have hsz:w3.heap.size=w.heap.size+4:=by rw [← hw3]; simp
  have hB0:Below w.heap.size w w3:=by
    rw [← hw3]
    exact (((((Below.refl _ w).alloc (Nat.le_refl _) _).alloc (by simp) _).alloc (by simp; omega) _).alloc (by simp; omega) _)
  have hG:GoodW (w.heap.size+1) (w.heap.size+1+1+1) ad b off ln cp level zs w3:=⟨b0.cell,b2.cell,fun j hj=>(hB0.cell (p:=⟨b,off+j,none⟩) (hb (by omega))).trans (hc j hj)⟩
  clear hw3
  refine wpIn_rangeFunc_ownG (n:=m) rfl hm (gf:=220) (lb:=#[.pointer (some ⟨w.heap.size+1+1,0,none⟩),.pointer (some ⟨w.heap.size+1,0,none⟩),.pointer (some ⟨w.heap.size+1+1+1,0,none⟩)]) rfl trivial (enters_of Tryz.func220 (by kernel_rfl) rfl)
    (Tryz.each1_stops (m-1) ad (w.heap.size+1+1) (w.heap.size+1) (w.heap.size+1+1+1) b off ln cp s had from_ level zs (by omega) hs hs2 w3 ⟨by omega,by omega,by omega,fun h=>by have:=hb h; omega⟩ b1.cell hG)
    (fun h1 h2 g=>h2 (h1 g)) ?hKb (Below.refl _ _) (fun _=>rfl)
    (fun pre W=>(∃ v,Boxed W w.heap.size 80 v∧W.ownsRow w3.heap.size 3 1 v pre.length (pre.map (Value.int .i64))∧(v=.slice none 0 0 ↔ pre=[]))∧Below w.heap.size w3 W)
    (fun _ _ _=>False)
    (OwnFrom.and (Own.from (holdsRow_own w3.heap.size w.heap.size 80 3 1 (fun pre:List Int=>pre.length) (fun pre=>pre.map (Value.int .i64)) (fun pre v=>v=.slice none 0 0 ↔ pre=[])) _) (ownFrom_below (by omega) (by omega)))
    (fun _ _ _ _ _ hs _ _=>hs)
    ⟨⟨_,bO,World.ownsRow_nil _ _ _ _,by simp⟩,Below.refl _ _⟩
    (fun x=>{ tmps:=#[.slice ad ln cp,.int .i64 from_,.int .i64 level,undef,undef,undef,.slice none 0 0,.pointer (some ⟨w.heap.size,0,none⟩),.int .i64 x,.slice ad ln cp,.int .i64 from_,.int .i64 level,.func (.func 220) #[] #[.pointer (some ⟨w.heap.size+1+1,0,none⟩),.pointer (some ⟨w.heap.size+1,0,none⟩),.pointer (some ⟨w.heap.size+1+1+1,0,none⟩)],.int .i64 x,undef,undef,undef,undef,undef],defers:=[] }) ?assign ?body ?done ?stop
  case hKb =>
    intro W l o o' hl ho hc1 hw1 g
    have hbl:=belowK_b (w:=w3) (Nat.le_refl _) W l o o' hl ho hc1 hw1
    exact ⟨(hbl.cell (p:=⟨w.heap.size+1,0,none⟩) (by show w.heap.size+1 < w3.heap.size; omega)).trans g.c0,(hbl.cell (p:=⟨w.heap.size+1+1+1,0,none⟩) (by show w.heap.size+1+1+1 < w3.heap.size; omega)).trans g.c2,fun j hj=>(hbl.cell (p:=⟨b,off+j,none⟩) (by have:=hb (by omega); show b < w3.heap.size; omega)).trans (g.cs j hj)⟩
  case assign =>
    intro l x W K hK
    gi_wp2
    exact hK
  case body =>
    rintro l pre x W ⟨⟨v,hv,hrow,hnil⟩,hB⟩ hlt
    have hc:=hv.cell
    have hc1:=(hv.alloc (.cells #[.int .i64 x] 3)).cell
    have hsz1:=hB.size
    have hnew:∀ j u,[Value.int .i64 x][j]?=some u→(W.alloc (.cells #[.int .i64 x] 3)).cell? ((⟨W.heap.size,0,none⟩:Addr).add j)=some u:=by
      have hown1:(W.alloc (.cells #[.int .i64 x] 3)).ownsRow w3.heap.size 3 1 (.slice (some ⟨W.heap.size,0,none⟩) 1 1) 1 [.int .i64 x]:=⟨rfl,.inr ⟨W.heap.size,1,#[.int .i64 x],rfl,hsz1,World.alloc_heap_new _ _,Nat.le_refl _,by rw [show maxLen=9223372036854775807 from rfl]; omega,rfl,rfl⟩⟩
      exact Tryz.own_cell hown1
    have hrow1:=hrow.alloc (.cells #[.int .i64 x] 3)
    have hv1:=hv.alloc (.cells #[.int .i64 x] 3)
    cases pre with
    | nil =>
      obtain rfl:=hnil.2 rfl
      gi_wp2_with (gi_at_builtin; refine wpListIn_append_own _ rfl _ _ 80 rfl w3.heap.size 3 i0 (.int .i64 0) 1 8 Tryz.underlying80 hi hz0 hz1 hz2 rfl (by decide) _ 0 [] rfl hrow1 ⟨W.heap.size,0,none⟩ 1 1 [.int .i64 x] rfl (by simp) hnew (by intro u hu; rw [List.mem_singleton.1 hu]; rfl) (by rw [show maxLen=9223372036854775807 from rfl]; omega) (by omega) (by simp; omega) ?_; intro v' w1 hown' hgrow hnn; obtain ⟨g2,cap2,rfl⟩:=ownsRow_succ hown'; have hgrow:(W.alloc (.cells #[.int .i64 x] 3)).grownBy w1 none:=hgrow; have hv2:=hv1.kept hgrow (by simp); have hcb:=hv2.cell; have hfb:=hv2.frozen; clear hnn)
      try rw [← hsz]
      exact Tryz.places_back (pre:=[]) (k:=0) (by omega) (by omega) hsz hb hB hv2 hgrow (by simp) rfl hown'
    | cons y pre =>
      obtain ⟨g',cap',rfl⟩:=ownsRow_succ hrow
      have hg':w3.heap.size≤g'∧∃ o,(W.alloc (.cells #[.int .i64 x] 3)).heap[g']?=some o∧o.isCells=true:=by
        rcases hrow1.2 with ⟨e,_⟩ | ⟨g,cap,cur,e,hg,hh,_⟩
        · cases e
        · cases e; exact ⟨hg,_,hh,rfl⟩
      have hlt':pre.length+1 < ln:=by simpa using hlt
      gi_wp2_with (gi_at_builtin; refine wpListIn_append_own _ rfl _ _ 80 rfl w3.heap.size 3 i0 (.int .i64 0) 1 8 Tryz.underlying80 hi hz0 hz1 hz2 rfl (by decide) _ ((y::pre).length) ((y::pre).map (Value.int .i64)) rfl hrow1 ⟨W.heap.size,0,none⟩ 1 1 [.int .i64 x] rfl (by simp) hnew (by intro u hu; rw [List.mem_singleton.1 hu]; rfl) (by rw [show maxLen=9223372036854775807 from rfl]; simp; omega) (by simp; omega) (by simp; omega) ?_; intro v' w1 hown' hgrow hnn; obtain ⟨g2,cap2,rfl⟩:=ownsRow_succ hown'; have hgrow:(W.alloc (.cells #[.int .i64 x] 3)).grownBy w1 (some g'):=hgrow; have hv2:=hv1.kept hgrow (by simp; omega); have hcb:=hv2.cell; have hfb:=hv2.frozen; clear hnn)
      try rw [← hsz]
      exact Tryz.places_back (pre:=y::pre) (k:=(y::pre).length) (by omega) (by omega) hsz hb hB hv2 hgrow (by intro j e; cases e; exact hg') (by simp) (by simpa using hown')
  case done =>
    rintro D ys W hD rfl ⟨⟨v,hv,hrow,_⟩,hB⟩ hK
    have hc:=hv.cell
    gi_wp2
    refine ⟨by simp,.inl ⟨_,_,rfl,run_takeDeferred hK,?_⟩⟩
    exact ⟨_,results_tmp rfl _ _ _,v,rfl,ownsRow_putObj (Tryz.own_base (B':=w.heap.size) hrow (by omega)) _ hK rfl,(hB0.trans hB).trans (belowK_b (w:=w) (Nat.le_refl _) W D _ _ (by omega) hK rfl rfl)⟩
  case stop =>
    rintro D c pre W _ _ h _
    exact h.elim
end Go.Proofs

namespace Go.Proofs.YtlkkebfjmbfgpaaGreatDoor.Ev
open Go Go.RowKit Go.Shelf
theorem hits_v (zs:List Int) (s:Nat) (level:Int):Tryz.hits zs s level zs.length=(hitsV zs s level).map fun (j:Nat)=>(j:Int):=rfl
theorem places_sat {xs:List AV} {r:Res} (h:placesX xs=some r):Sat Tryz.prog f125_info 125 xs r:=by
  intro S0 w0 vs bs ha hargs _
  obtain ⟨v1,vs1,x1,xs1,rfl,rfl,hv1,v2,vs2,x2,xs2,rfl,rfl,hv2,v3,vs3,x3,xs3,rfl,rfl,hv3,rfl,rfl,rfl⟩:=hargs
  obtain ⟨cs1,rfl,a,len,cap,es,rfl,rfl,hlen,hlc,hcap,hc0,hes⟩:=hv1
  obtain ⟨cs2,rfl,n,rfl,rfl,hwf⟩:=hv2
  obtain ⟨cs3,rfl,i,rfl,rfl,_⟩:=hv3
  unfold placesX at h
  simp only [toInt_i,toSlice_s] at h
  cases hb:Nat.ble es.length 1000000 with
  | false=>rw [hb] at h; cases h
  | true =>
  rw [hb,cond_true] at h
  cases h
  have h3:=Nat.le_of_ble_eq_true hb
  rw [val_one rfl,val_one rfl,val_one rfl]
  have hn:=wf64 hwf
  have hlen2:(es.map AV.toInt).length=len:=by rw [List.length_map]; exact hlen
  have hcell:∀ p,a=some p→∀ j,j < len→w0.cell? (p.add j)=some (.int .i64 ((es.map AV.toInt)[j]?.getD 0)):=by
    intro p hp j hj
    have hj2:j < es.length:=by omega
    obtain ⟨ds,h1,h2,h4⟩:=hes p hp j es[j] (by rw [List.getElem?_eq_getElem hj2])
    obtain ⟨z,rfl,hz,_⟩:=h4
    have h5:=h1 0 _ rfl
    rw [show (p.add (j*Ty.size (.int .i64))).add 0=p.add j by simp [Addr.add,Ty.size]] at h5
    rw [ha _ _ h5,List.getElem?_map,List.getElem?_eq_getElem hj2,hz]
    rfl
  have key:∃ b off,(a=some ⟨b,off,none⟩∨len=0)∧(0 < len→b < w0.heap.size)∧∀ j,j < len→w0.cell? ⟨b,off+j,none⟩=some (.int .i64 ((es.map AV.toInt)[j]?.getD 0)):=by
    by_cases h0:len=0
    · exact ⟨0,0,.inr h0,fun h=>by omega,fun j hj=>by omega⟩
    · cases a with
      | none=>have:=hc0 rfl; omega
      | some p =>
        have c0:=hcell p rfl 0 (by omega)
        rw [show p.add 0=p by simp [Addr.add]] at c0
        have c1:=cell_parts c0
        refine ⟨p.block,p.off,.inl ?_,fun _=>c1.2,fun j hj=>?_⟩
        · cases p; simp at c1; simp [c1.1]
        · rw [← hcell p rfl j hj]
          congr 1
          cases p
          simp at c1
          simp [Addr.add,c1.1]
  obtain ⟨b,off,had,hbl,hc⟩:=key
  have hP:=Tryz.places_in 3 (by omega) a b off len cap n.toNat had n i (es.map AV.toInt) (by omega) (by omega) (by omega) w0 hbl hc
  refine (callsIn_wide.1 hP).mono fun e w' he=>?_
  obtain ⟨v,rfl,hrow,hbel⟩:=he
  rw [← hlen2,hits_v] at hrow
  rw [List.length_map] at hrow
  refine row_back (T:=.int .i64) rfl ha hbel (by rw [List.length_map]; exact hrow) ?_
  intro j y hy
  rw [List.getElem?_map] at hy
  rw [List.getElem?_map,List.getElem?_map]
  cases hj:(hitsV (es.map AV.toInt) n.toNat i)[j]? with
  | none=>rw [hj] at hy; cases hy
  | some q =>
    rw [hj] at hy; cases hy
    refine ⟨_,rfl,fun S=>⟨_,rfl,rfl,?_⟩⟩
    have hq:q∈hitsV (es.map AV.toInt) n.toNat i:=List.mem_of_getElem? hj
    have:q < es.length:=by
      unfold hitsV at hq
      have:=(List.mem_filter.1 hq).1
      rw [List.mem_range,List.length_map] at this
      exact this
    have hw:=wrap_wf .i64 (q:Int)
    rwa [w64 (by omega) (by omega)] at hw
end Go.Proofs.YtlkkebfjmbfgpaaGreatDoor.Ev

namespace Go.Proofs.YtlkkebfjmbfgpaaGreatDoor.Ev
open Go Go.RowKit
theorem shaFind_mem {s d:List UInt8}:∀ {l:List (List UInt8 × List UInt8)},shaFind s l=some d→(s,d)∈l
  | [],h=>by cases h
  | (t,e)::r,h=>by
    simp only [shaFind] at h
    cases hb:eqB t s with
    | true =>
      rw [hb,cond_true] at h
      cases h
      rw [← eqB_eq hb]
      exact List.mem_cons_self
    | false=>rw [hb,cond_false] at h; exact List.mem_cons_of_mem _ (shaFind_mem h)
theorem shaTab_len:∀ p∈shaTab,p.1.length≤1000000:=by
  have h:shaTab.all (fun p=>Nat.ble p.1.length 1000000)=true:=by kernel_rfl
  intro p hp
  exact Nat.le_of_ble_eq_true (List.all_eq_true.1 h p hp)
theorem sha_sat2 {xs:List AV} {r:Res} (h:shaX xs=some r):Sat Tryz.prog f59_info 59 xs r:=by
  intro S0 w0 vs bs ha hargs hnd
  have hargs':=hargs
  obtain ⟨v1,vs1,x1,xs1,rfl,rfl,hv1,rfl,rfl,rfl⟩:=hargs'
  obtain ⟨cs1,rfl,s,rfl,rfl,hs⟩:=hv1
  obtain ⟨d,hd,rfl⟩:=Option.map_eq_some_iff.1 h
  have hd:shaFind s shaTab=some d:=hd
  have h1:=shaFind_eq shaTab_ok hd
  have h2:=shaTab_len _ (shaFind_mem hd)
  simp only at h2
  have h3:Runs G ext 59 [.str s] ⟨[.blob (hashV s)],[],false⟩:=RunsX.of_eval _ (sha_at (s.length+6000) (by omega) (by omega))
  rw [h1] at h3
  exact sat_of_runsX f59_at h3 S0 w0 _ _ ha hargs hnd
theorem refSha_sat2 {xs:List AV} {r:Res} (h:shaX xs=some r):Sat Tryz.prog f46_info 46 xs r:=by
  intro S0 w0 vs bs ha hargs hnd
  have hargs':=hargs
  obtain ⟨v1,vs1,x1,xs1,rfl,rfl,hv1,rfl,rfl,rfl⟩:=hargs'
  obtain ⟨cs1,rfl,s,rfl,rfl,hs⟩:=hv1
  obtain ⟨d,hd,rfl⟩:=Option.map_eq_some_iff.1 h
  have hd:shaFind s shaTab=some d:=hd
  have h1:=shaFind_eq shaTab_ok hd
  have h2:=shaTab_len _ (shaFind_mem hd)
  simp only at h2
  have h3:Runs G ext 46 [.str s] ⟨[.blob (hashV s)],[],false⟩:=RunsX.of_eval _ (refSha_at (s.length+6000) (by omega) (by omega))
  rw [h1] at h3
  exact sat_of_runsX f46_at h3 S0 w0 _ _ ha hargs hnd
theorem Sat.ext {P:Program} {i:FnInfo} {f:FuncId} {xs:List AV} {r:Res} (h:Sat P i f xs r):Sat P { i with ext:=true } f xs r:=h
inductive AllSat2:List (FuncId × (List AV→Option Res))→Prop
  | nil:AllSat2 []
  | cons {f:FuncId} {g:List AV→Option Res} {l:List (FuncId × (List AV→Option Res))} {i:FnInfo} (hi:assoc G2.fns f=some i) (h:∀ xs r,g xs=some r→Sat Tryz.prog i f xs r) (hl:AllSat2 l):AllSat2 ((f,g)::l)
theorem AllSat2.at {l:List (FuncId × (List AV→Option Res))} (h:AllSat2 l):∀ f g i xs r,assoc G2.fns f=some i→assoc l f=some g→g xs=some r→Sat Tryz.prog i f xs r:=by
  induction h with
  | nil=>intro f g i xs r _ e; cases e
  | @cons f0 g0 l i0 hi0 h0 _ ih =>
    intro f g i xs r hi e hr
    simp only [assoc] at e
    cases hb:Nat.beq f0 f with
    | false=>rw [hb,cond_false] at e; exact ih f g i xs r hi e hr
    | true =>
      have:f0=f:=Nat.eq_of_beq_eq_true hb
      subst this
      rw [hb,cond_true] at e
      cases e
      rw [hi0] at hi
      cases hi
      exact h0 xs r hr
theorem ext2_all:AllSat2 extL2 :=
  .cons (i:={ f59_info with ext:=true }) (by kernel_rfl) (fun _ _ h=>Sat.ext (sha_sat2 h)) <|
  .cons (i:={ f46_info with ext:=true }) (by kernel_rfl) (fun _ _ h=>Sat.ext (refSha_sat2 h)) <|
  .cons (i:=f55_info) (by kernel_rfl) (fun _ _ h=>sides_sat h) <|
  .cons (i:=f125_info) (by kernel_rfl) (fun _ _ h=>places_sat h) <|
  .cons (i:=f312_info) (by kernel_rfl) (fun _ _ h=>count_sat h) <|
  .cons (i:=f164_info) (by kernel_rfl) (fun _ _ h=>join_sat h) <|
  .nil
theorem ext2_ok:Ext2Ok:=by
  intro f i xs r hi h
  unfold ext2 at h
  cases hg:assoc extL2 f with
  | none=>rw [hg] at h; cases h
  | some g=>rw [hg] at h; exact ext2_all.at f g i xs r hi hg h
end Go.Proofs.YtlkkebfjmbfgpaaGreatDoor.Ev

namespace Go.Proofs.YtlkkebfjmbfgpaaGreatDoor.Ev
open Go Go.RowKit
set_option maxRecDepth 1000000
def dnT0:Tab:=[]
theorem dnT0_ok:TabOk dnT0:=tab_nil
def dn0X:List AV:=[.blob wFull]
def dn0R:Res:=⟨[.agg [.int 18446744073709551615,.int 18446744073709551615,.int 18446744073709551615,.int 18446744073709551615]],[],false⟩
theorem dn0_at:assoc G2.fns 131=some f131_info:=by kernel_rfl
theorem dn0_sat:Sat Tryz.prog f131_info 131 dn0X dn0R:=sat_by 599 ext2_ok dnT0_ok f131_ok (by kernel_rfl)
def dnT1:Tab:=(131,(dn0X,dn0R))::dnT0
theorem dnT1_ok:TabOk dnT1:=tab_cons dn0_at dn0_sat dnT0_ok
def dn1X:List AV:=[.blob wIdg]
def dn1R:Res:=⟨[.agg [.int 6764435823433629159,.int 8864292973192301018,.int 7753462259319247323,.int 16304791851308255469]],[],false⟩
theorem dn1_at:assoc G2.fns 131=some f131_info:=by kernel_rfl
theorem dn1_sat:Sat Tryz.prog f131_info 131 dn1X dn1R:=sat_by 599 ext2_ok dnT1_ok f131_ok (by kernel_rfl)
def dnT2:Tab:=(131,(dn1X,dn1R))::dnT1
theorem dnT2_ok:TabOk dnT2:=tab_cons dn1_at dn1_sat dnT1_ok
def dn2X:List AV:=[.blob wIdb]
def dn2R:Res:=⟨[.agg [.int 54891959899542122,.int 6474648830845339132,.int 5303310949754583077,.int 15543732105861324602]],[],false⟩
theorem dn2_at:assoc G2.fns 131=some f131_info:=by kernel_rfl
theorem dn2_sat:Sat Tryz.prog f131_info 131 dn2X dn2R:=sat_by 599 ext2_ok dnT2_ok f131_ok (by kernel_rfl)
def dnT3:Tab:=(131,(dn2X,dn2R))::dnT2
theorem dnT3_ok:TabOk dnT3:=tab_cons dn2_at dn2_sat dnT2_ok
def dn3X:List AV:=[.blob wIdg,.blob wFull]
def dn3R:Res:=⟨[.bool true],[],false⟩
theorem dn3_at:assoc G2.fns 77=some f77_info:=by kernel_rfl
theorem dn3_sat:Sat Tryz.prog f77_info 77 dn3X dn3R:=sat_by 599 ext2_ok dnT3_ok f77_ok (by kernel_rfl)
def dnT4:Tab:=(77,(dn3X,dn3R))::dnT3
theorem dnT4_ok:TabOk dnT4:=tab_cons dn3_at dn3_sat dnT3_ok
def dn4X:List AV:=[.blob wIdb,.blob wFull]
def dn4R:Res:=⟨[.bool true],[],false⟩
theorem dn4_at:assoc G2.fns 77=some f77_info:=by kernel_rfl
theorem dn4_sat:Sat Tryz.prog f77_info 77 dn4X dn4R:=sat_by 599 ext2_ok dnT4_ok f77_ok (by kernel_rfl)
def dnT5:Tab:=(77,(dn4X,dn4R))::dnT4
theorem dnT5_ok:TabOk dnT5:=tab_cons dn4_at dn4_sat dnT4_ok
def dn5X:List AV:=[.blob wIdg,.blob wFull]
def dn5R:Res:=⟨[.int 0],[],false⟩
theorem dn5_at:assoc G2.fns 119=some f119_info:=by kernel_rfl
theorem dn5_sat:Sat Tryz.prog f119_info 119 dn5X dn5R:=sat_by 599 ext2_ok dnT5_ok f119_ok (by kernel_rfl)
def dnT6:Tab:=(119,(dn5X,dn5R))::dnT5
theorem dnT6_ok:TabOk dnT6:=tab_cons dn5_at dn5_sat dnT5_ok
def dn6X:List AV:=[.blob wIdb,.blob wFull]
def dn6R:Res:=⟨[.int 0],[],false⟩
theorem dn6_at:assoc G2.fns 119=some f119_info:=by kernel_rfl
theorem dn6_sat:Sat Tryz.prog f119_info 119 dn6X dn6R:=sat_by 599 ext2_ok dnT6_ok f119_ok (by kernel_rfl)
def dnT7:Tab:=(119,(dn6X,dn6R))::dnT6
theorem dnT7_ok:TabOk dnT7:=tab_cons dn6_at dn6_sat dnT6_ok
def dn7X:List AV:=[wG]
def dn7R:Res:=⟨[.blob wIdg],[],false⟩
theorem dn7_at:assoc G2.fns 12=some f12_info:=by kernel_rfl
theorem dn7_sat:Sat Tryz.prog f12_info 12 dn7X dn7R:=sat_by 599 ext2_ok dnT7_ok f12_ok (by kernel_rfl)
def dnT8:Tab:=(12,(dn7X,dn7R))::dnT7
theorem dnT8_ok:TabOk dnT8:=tab_cons dn7_at dn7_sat dnT7_ok
def dn8X:List AV:=[wB]
def dn8R:Res:=⟨[.blob wIdb],[],false⟩
theorem dn8_at:assoc G2.fns 12=some f12_info:=by kernel_rfl
theorem dn8_sat:Sat Tryz.prog f12_info 12 dn8X dn8R:=sat_by 599 ext2_ok dnT8_ok f12_ok (by kernel_rfl)
def dnT9:Tab:=(12,(dn8X,dn8R))::dnT8
theorem dnT9_ok:TabOk dnT9:=tab_cons dn8_at dn8_sat dnT8_ok
def dn9X:List AV:=[.slice []]
def dn9R:Res:=⟨[.blob [198,192,170,7,242,116,147,210,242,229,207,245,108,137,10,53,58,32,8,109,108,37,236,130,81,40,225,42,231,82,178,217]],[],false⟩
theorem dn9_at:assoc G2.fns 76=some f76_info:=by kernel_rfl
theorem dn9_sat:Sat Tryz.prog f76_info 76 dn9X dn9R:=sat_by 599 ext2_ok dnT9_ok f76_ok (by kernel_rfl)
def dnT10:Tab:=(76,(dn9X,dn9R))::dnT9
theorem dnT10_ok:TabOk dnT10:=tab_cons dn9_at dn9_sat dnT9_ok
def dn10X:List AV:=[wC]
def dn10R:Res:=⟨[.int 0],[],false⟩
theorem dn10_at:assoc G2.fns 34=some f34_info:=by kernel_rfl
theorem dn10_sat:Sat Tryz.prog f34_info 34 dn10X dn10R:=sat_by 599 ext2_ok dnT10_ok f34_ok (by kernel_rfl)
def dnT11:Tab:=(34,(dn10X,dn10R))::dnT10
theorem dnT11_ok:TabOk dnT11:=tab_cons dn10_at dn10_sat dnT10_ok
def dn11X:List AV:=[wC,.slice wChain]
def dn11R:Res:=⟨[.agg [.int 0,.int 0]],[],false⟩
theorem dn11_at:assoc G2.fns 63=some f63_info:=by kernel_rfl
theorem dn11_sat:Sat Tryz.prog f63_info 63 dn11X dn11R:=sat_by 599 ext2_ok dnT11_ok f63_ok (by kernel_rfl)
def dnT12:Tab:=(63,(dn11X,dn11R))::dnT11
theorem dnT12_ok:TabOk dnT12:=tab_cons dn11_at dn11_sat dnT11_ok
def dn12X:List AV:=[.blob wFull,.slice wChain]
def dn12R:Res:=⟨[.slice [.int 256,.int 0]],[],true⟩
theorem dn12_at:assoc G2.fns 65=some f65_info:=by kernel_rfl
theorem dn12_sat:Sat Tryz.prog f65_info 65 dn12X dn12R:=sat_by 599 ext2_ok dnT12_ok f65_ok (by kernel_rfl)
def dnT13:Tab:=(65,(dn12X,dn12R))::dnT12
theorem dnT13_ok:TabOk dnT13:=tab_cons dn12_at dn12_sat dnT12_ok
def dn13X:List AV:=[.blob wFull,.slice wChain]
def dn13R:Res:=⟨[.slice [.slice [],.slice [.blob [226,70,65,205,97,233,136,237,107,153,212,216,98,31,17,219,123,4,75,126,124,30,73,218,93,224,26,138,185,176,61,231]],.slice [.blob [215,182,109,254,253,178,223,58,73,153,37,53,237,143,184,37,89,218,146,206,183,239,69,252,0,195,3,242,90,214,82,106],.blob [226,70,65,205,97,233,136,237,107,153,212,216,98,31,17,219,123,4,75,126,124,30,73,218,93,224,26,138,185,176,61,231]]]],[],true⟩
theorem dn13_at:assoc G2.fns 66=some f66_info:=by kernel_rfl
theorem dn13_sat:Sat Tryz.prog f66_info 66 dn13X dn13R:=sat_by 599 ext2_ok dnT13_ok f66_ok (by kernel_rfl)
def dnT14:Tab:=(66,(dn13X,dn13R))::dnT13
theorem dnT14_ok:TabOk dnT14:=tab_cons dn13_at dn13_sat dnT13_ok
def dn14X:List AV:=[wC,.slice wChain]
def dn14R:Res:=⟨[.slice [.int 0,.int 1]],[],true⟩
theorem dn14_at:assoc G2.fns 30=some f30_info:=by kernel_rfl
theorem dn14_sat:Sat Tryz.prog f30_info 30 dn14X dn14R:=sat_by 599 ext2_ok dnT14_ok f30_ok (by kernel_rfl)
def dnT15:Tab:=(30,(dn14X,dn14R))::dnT14
theorem dnT15_ok:TabOk dnT15:=tab_cons dn14_at dn14_sat dnT14_ok
def dn15X:List AV:=[wC,.slice wChain]
def dn15R:Res:=⟨[.slice wSteps,.int 0],[],false⟩
theorem dn15_at:assoc G2.fns 13=some f13_info:=by kernel_rfl
theorem dn15_sat:Sat Tryz.prog f13_info 13 dn15X dn15R:=sat_by 599 ext2_ok dnT15_ok f13_ok (by kernel_rfl)
def dnT16:Tab:=(13,(dn15X,dn15R))::dnT15
theorem dnT16_ok:TabOk dnT16:=tab_cons dn15_at dn15_sat dnT15_ok
def dn16X:List AV:=[wC,.slice wSteps]
def dn16R:Res:=⟨[.agg [.int 0,.int 0]],[],false⟩
theorem dn16_at:assoc G2.fns 80=some f80_info:=by kernel_rfl
theorem dn16_sat:Sat Tryz.prog f80_info 80 dn16X dn16R:=sat_by 599 ext2_ok dnT16_ok f80_ok (by kernel_rfl)
def dnT17:Tab:=(80,(dn16X,dn16R))::dnT16
theorem dnT17_ok:TabOk dnT17:=tab_cons dn16_at dn16_sat dnT16_ok
def dn17X:List AV:=[.str wBytes]
def dn17R:Res:=⟨[.slice wSteps,.int 0],[],false⟩
theorem dn17_at:assoc G2.fns 78=some f78_info:=by kernel_rfl
theorem dn17_sat:Sat Tryz.prog f78_info 78 dn17X dn17R:=sat_by 599 ext2_ok dnT17_ok f78_ok (by kernel_rfl)
def dnT18:Tab:=(78,(dn17X,dn17R))::dnT17
theorem dnT18_ok:TabOk dnT18:=tab_cons dn17_at dn17_sat dnT17_ok
def dn18X:List AV:=[.blob wFull,.slice wSteps]
def dn18R:Res:=⟨[.agg [.slice [.blob [226,70,65,205,97,233,136,237,107,153,212,216,98,31,17,219,123,4,75,126,124,30,73,218,93,224,26,138,185,176,61,231],.blob [215,182,109,254,253,178,223,58,73,153,37,53,237,143,184,37,89,218,146,206,183,239,69,252,0,195,3,242,90,214,82,106]],.slice [.int 256,.int 0]]],[],false⟩
theorem dn18_at:assoc G2.fns 39=some f39_info:=by kernel_rfl
theorem dn18_sat:Sat Tryz.prog f39_info 39 dn18X dn18R:=sat_by 599 ext2_ok dnT18_ok f39_ok (by kernel_rfl)
def dnT19:Tab:=(39,(dn18X,dn18R))::dnT18
theorem dnT19_ok:TabOk dnT19:=tab_cons dn18_at dn18_sat dnT18_ok
def dn19X:List AV:=[.slice []]
def dn19R:Res:=⟨[.blob [198,192,170,7,242,116,147,210,242,229,207,245,108,137,10,53,58,32,8,109,108,37,236,130,81,40,225,42,231,82,178,217]],[],false⟩
theorem dn19_at:assoc G2.fns 5=some f5_info:=by kernel_rfl
theorem dn19_sat:Sat Tryz.prog f5_info 5 dn19X dn19R:=sat_by 599 ext2_ok dnT19_ok f5_ok (by kernel_rfl)
def dnT20:Tab:=(5,(dn19X,dn19R))::dnT19
theorem dnT20_ok:TabOk dnT20:=tab_cons dn19_at dn19_sat dnT19_ok
def dn20X:List AV:=[]
def dn20R:Res:=⟨[.blob wFull],[],false⟩
theorem dn20_at:assoc G2.fns 10=some f10_info:=by kernel_rfl
theorem dn20_sat:Sat Tryz.prog f10_info 10 dn20X dn20R:=sat_by 599 ext2_ok dnT20_ok f10_ok (by kernel_rfl)
def dnT21:Tab:=(10,(dn20X,dn20R))::dnT20
theorem dnT21_ok:TabOk dnT21:=tab_cons dn20_at dn20_sat dnT20_ok
def dn21X:List AV:=[.blob wIdg]
def dn21R:Res:=⟨[.str [226,70,65,205,97,233,136,237,107,153,212,216,98,31,17,219,123,4,75,126,124,30,73,218,93,224,26,138,185,176,61,231]],[],false⟩
theorem dn21_at:assoc G2.fns 11=some f11_info:=by kernel_rfl
theorem dn21_sat:Sat Tryz.prog f11_info 11 dn21X dn21R:=sat_by 599 ext2_ok dnT21_ok f11_ok (by kernel_rfl)
def dnT22:Tab:=(11,(dn21X,dn21R))::dnT21
theorem dnT22_ok:TabOk dnT22:=tab_cons dn21_at dn21_sat dnT21_ok
def dn22X:List AV:=[.slice [.str (76::wIdg)]]
def dn22R:Res:=⟨[.blob [135,128,56,3,211,251,237,222,177,155,95,89,114,91,35,195,26,220,158,11,244,188,61,171,232,240,10,38,107,206,221,133]],[],false⟩
theorem dn22_at:assoc G2.fns 5=some f5_info:=by kernel_rfl
theorem dn22_sat:Sat Tryz.prog f5_info 5 dn22X dn22R:=sat_by 599 ext2_ok dnT22_ok f5_ok (by kernel_rfl)
def dnT23:Tab:=(5,(dn22X,dn22R))::dnT22
theorem dnT23_ok:TabOk dnT23:=tab_cons dn22_at dn22_sat dnT22_ok
def dn23X:List AV:=[.slice [.str [84,97]]]
def dn23R:Res:=⟨[.blob [36,121,71,253,143,50,32,175,212,62,212,85,25,164,63,154,19,209,75,7,29,81,182,28,142,152,63,23,185,252,120,157]],[],false⟩
theorem dn23_at:assoc G2.fns 5=some f5_info:=by kernel_rfl
theorem dn23_sat:Sat Tryz.prog f5_info 5 dn23X dn23R:=sat_by 599 ext2_ok dnT23_ok f5_ok (by kernel_rfl)
def dnT24:Tab:=(5,(dn23X,dn23R))::dnT23
theorem dnT24_ok:TabOk dnT24:=tab_cons dn23_at dn23_sat dnT23_ok
end Go.Proofs.YtlkkebfjmbfgpaaGreatDoor.Ev

namespace Go.Proofs.YtlkkebfjmbfgpaaGreatDoor.Ev
open Go Go.RowKit
theorem step1 {α:Type} (v:AV) (fr:Bool) (K:AV→Option α):(some (⟨[v],[],fr⟩:Res)).bind (fun r=>nilV r.outs (consV r.vals fun v vs=>nilV vs (K v)))=K v:=rfl
theorem step1f {α:Type} (v:AV) (K:AV→Option α):(some (⟨[v],[],true⟩:Res)).bind (fun r=>bif r.fresh then nilV r.outs (consV r.vals fun v vs=>nilV vs (K v)) else none)=K v:=rfl
theorem step2 {α:Type} (v u:AV) (fr:Bool) (K:AV→AV→Option α):(some (⟨[v,u],[],fr⟩:Res)).bind (fun r=>nilV r.outs (consV r.vals fun v vs=>consV vs fun u us=>nilV us (K v u)))=K v u:=rfl
theorem sha_runs {b:List UInt8} (hb:b.length≤1152921504606840000):RunsX 59 [.str b] ⟨[.blob (hashV b)],[],false⟩ :=
  Evt.succ ((Evt.ge (b.length+6000)).mono fun n hn=>sha_at n hb hn)
theorem refSha_runs {b:List UInt8} (hb:b.length≤1152921504606840000):RunsX 46 [.str b] ⟨[.blob (hashV b)],[],false⟩ :=
  Evt.succ ((Evt.ge (b.length+6000)).mono fun n hn=>refSha_at n hb hn)
def leafT (s:List UInt8):List UInt8:=[0]++s
def nodeT (a b:List UInt8):List UInt8:=[1]++a++b
def rootT (n:Nat) (h:List UInt8):List UInt8:=[2]++bs (BitVec.ofNat 64 n) 8++h
def leafH (s:List UInt8):List UInt8:=hashV (leafT s)
def nodeH (a b:List UInt8):List UInt8:=hashV (nodeT a b)
def rootH (n:Nat) (h:List UInt8):List UInt8:=hashV (rootT n h)
theorem ext_join (l:List AV) (hl:l.length≤1048576) (hb:(Lib.join (l.map AV.toStr) []).length≤140737488355328) (n:Nat):runE G ext n 164 [.slice l,.str []]=some ⟨[.str (Lib.join (l.map AV.toStr) [])],[],false⟩:=by
  refine ext_at ?_ n
  show joinX [.slice l,.str []]=_
  unfold joinX
  simp only [toSlice_s,toStr_s]
  rw [show Nat.ble l.length 1048576=true from Nat.ble_eq_true_of_le hl,show Nat.ble (Lib.join (l.map AV.toStr) []).length 140737488355328=true from Nat.ble_eq_true_of_le hb]
  rfl
theorem join1 (a:List UInt8):Lib.join ([AV.str a].map AV.toStr) []=a:=by simp [Lib.join,List.intercalate,AV.toStr]
theorem join2 (a b:List UInt8):Lib.join ([AV.str a,AV.str b].map AV.toStr) []=a++b:=by simp [Lib.join,List.intercalate,AV.toStr]
theorem text_at (n:Nat) (t:Int) (l:List AV) (hl:l.length≤1048576) (hb:(Lib.join (l.map AV.toStr) []).length≤140737488355328):runE G ext (n+1) 106 [.int t,.slice l]=some ⟨[.str (bytesOf [.int t]++Lib.join (l.map AV.toStr) [])],[],false⟩:=by
  rw [f106_run,f106_eq,ext_join l hl hb,step1,toStr_s,show Nat.ble ((bytesOf [.int t]).length+(Lib.join (l.map AV.toStr) []).length) maxLen=true from Nat.ble_eq_true_of_le (by rw [maxLen_eq]; simp [bytesOf]; omega),cond_true]
  rfl
theorem leafText_at (n:Nat) {s:List UInt8} (hs:s.length≤140737488355328):runE G ext (n+2) 52 [.str s]=some ⟨[.str (leafT s)],[],false⟩:=by
  have h:=text_at n 0 [.str s] (by simp) (by rw [join1]; exact hs)
  rw [join1,show bytesOf [.int 0]=[0] by decide +kernel] at h
  rw [f52_run,f52_eq,h,step1]
  rfl
theorem raw32 {a:List UInt8} (h:a.length=32):bytesOf (List.drop 0 (List.take 32 (ofBytes a)))=a:=by
  rw [List.drop_zero,List.take_of_length_le (by simp [ofBytes,h])]
  exact bytesOf_B a
theorem nodeText_at (n:Nat) {a b:List UInt8} (ha:a.length=32) (hb:b.length=32):runE G ext (n+2) 54 [.blob a,.blob b]=some ⟨[.str (nodeT a b)],[],false⟩:=by
  have h:=text_at n 1 [.str a,.str b] (by simp) (by rw [join2]; simp; omega)
  rw [join2,show bytesOf [.int 1]=[1] by decide +kernel] at h
  rw [f54_run,f54_eq,raw32 ha,raw32 hb,h,step1,toStr_s,← List.append_assoc]
  rfl
theorem put64_at (m:Nat) (hm:2000≤m) (x:BitVec 64):runE G ext (m+2) 62 [.int (U x)]=some ⟨[.str (bs x 8)],[],false⟩:=by
  have h:runE G ext (m+1) 113 [.int (U x),.int 8]=some ⟨[.str (bs x 8)],[],false⟩:=put_at m hm x (m:=8) (by omega)
  rw [f62_run,f62_eq,h,step1]
  rfl
theorem rootText_at (m:Nat) (hm:2000≤m) (n:Nat) {a:List UInt8} (ha:a.length=32):runE G ext (m+3) 56 [.int (U (BitVec.ofNat 64 n)),.blob a]=some ⟨[.str (rootT n a)],[],false⟩:=by
  have h:=text_at (m+1) 2 [.str (bs (BitVec.ofNat 64 n) 8),.str a] (by simp) (by rw [join2]; simp [bs_len]; omega)
  rw [join2,show bytesOf [.int 2]=[2] by decide +kernel] at h
  rw [f56_run,f56_eq,put64_at m hm,step1,raw32 ha,toStr_s,h,step1,toStr_s,← List.append_assoc]
  rfl
theorem leafT_len (s:List UInt8):(leafT s).length=s.length+1:=by simp [leafT]
theorem nodeT_len {a b:List UInt8} (ha:a.length=32) (hb:b.length=32):(nodeT a b).length=65:=by simp [nodeT,ha,hb]
theorem rootT_len (n:Nat) {a:List UInt8} (ha:a.length=32):(rootT n a).length=41:=by simp [rootT,ha,bs_len]
theorem leafSum_runs {s:List UInt8} (hs:s.length≤140737488355328):RunsX 104 [.str s] ⟨[.blob (leafH s)],[],false⟩:=by
  refine Evt.succ (((sha_runs (b:=leafT s) (by rw [leafT_len]; omega)).and (Evt.ge 10)).mono fun n hn=>?_)
  obtain ⟨m,rfl⟩:∃ m,n=m+2:=⟨n-2,by omega⟩
  rw [f104_run,f104_eq,leafText_at m hs,step1,toStr_s,hn.1,step1]
  rfl
theorem nodeSum_runs {a b:List UInt8} (ha:a.length=32) (hb:b.length=32):RunsX 105 [.blob a,.blob b] ⟨[.blob (nodeH a b)],[],false⟩:=by
  refine Evt.succ (((sha_runs (b:=nodeT a b) (by rw [nodeT_len ha hb]; omega)).and (Evt.ge 10)).mono fun n hn=>?_)
  obtain ⟨m,rfl⟩:∃ m,n=m+2:=⟨n-2,by omega⟩
  rw [f105_run,f105_eq,nodeText_at m ha hb,step1,toStr_s,hn.1,step1]
  rfl
theorem rootSum_runs (k:Nat) {a:List UInt8} (ha:a.length=32):RunsX 58 [.int (U (BitVec.ofNat 64 k)),.blob a] ⟨[.blob (rootH k a)],[],false⟩:=by
  refine Evt.succ (((sha_runs (b:=rootT k a) (by rw [rootT_len k ha]; omega)).and (Evt.ge 3000)).mono fun n hn=>?_)
  obtain ⟨m,rfl⟩:∃ m,n=m+3:=⟨n-3,by omega⟩
  rw [f58_run,f58_eq,rootText_at m (by omega) k ha,step1,toStr_s,hn.1,step1]
  rfl
theorem setB {l:List UInt8} {m:Nat} (v:UInt8):(B l++List.replicate (m+1) (AV.int 0)).set l.length (.int (v.toNat:Int))=B (l++[v])++List.replicate m (.int 0):=by
  have hl:(B l).length=l.length:=by simp [B]
  rw [List.set_append_right _ _ (by omega),hl,Nat.sub_self,List.replicate_succ,List.set_cons_zero]
  simp [B]
theorem raw_l0 (run:Run) (n:Nat) {a:List UInt8} (ha:a.length=32):∀ (j k i:Nat),i+j=32→j < k →
    f101_l0 run n k (i:Int) a (B (a.take i)++List.replicate (32-i) (.int 0))=some ⟨[.str a],[],false⟩:=by
  intro j
  induction j with
  | zero =>
    intro k i hi hk
    obtain ⟨k,rfl⟩:∃ j,k=j+1:=⟨k-1,by omega⟩
    rw [Nat.add_zero] at hi
    subst hi
    rw [f101_l0_eq,ltI_f (by omega),cond_false,Nat.sub_self,List.replicate_zero,List.append_nil,List.take_of_length_le (l:=a) (i:=32) (by omega),List.drop_zero,List.take_of_length_le (by simp [B,ha]),bytesOf_B]
    rfl
  | succ j ih =>
    intro k i hi hk
    obtain ⟨k,rfl⟩:∃ j,k=j+1:=⟨k-1,by omega⟩
    have ih':=ih k (i+1) (by omega) (by omega)
    rw [show ((i+1:Nat):Int)=(i:Int)+1 by omega] at ih'
    have hl:(a.take i).length=i:=by simp; omega
    have e:=setB (l:=a.take i) (m:=32-(i+1)) (a.getD i 0)
    rw [hl,show 32-(i+1)+1=32-i by omega,show a.take i++[a.getD i 0]=a.take (i+1) from by rw [List.take_succ_eq_append_getElem (by omega)]; simp [show i < a.length by omega]] at e
    rw [f101_l0_eq,ltI_t (by omega),cond_true,inR_nat (by omega),cond_true,cond_true,w64 (by omega) (by omega),Int.toNat_natCast,Nat.zero_add,e]
    exact ih'
theorem raw_at (n:Nat) (hn:100≤n) {a:List UInt8} (ha:a.length=32):runE G ext (n+1) 101 [.blob a]=some ⟨[.str a],[],false⟩:=by
  rw [f101_run,f101_eq]
  exact raw_l0 _ _ ha 32 n 0 (by omega) (by omega)
theorem refByte0 (n:Nat) (c:Int) (v:UInt8) (h:bytesOf [.int (IntKind.wrap .u8 c)]=[v]):runE G ext (n+1) 100 [.int c]=some ⟨[.str [v]],[],false⟩:=by rw [refByte_at,h]
theorem refLeafText_at (n:Nat) {s:List UInt8} (hs:s.length≤140737488355328):runE G ext (n+2) 103 [.str s]=some ⟨[.str (leafT s)],[],false⟩:=by
  rw [f103_run,f103_eq,refByte0 n 0 0 (by decide +kernel),step1,toStr_s,show Nat.ble ([(0:UInt8)].length+s.length) maxLen=true from Nat.ble_eq_true_of_le (by rw [maxLen_eq]; simp; omega),cond_true]
  rfl
theorem refNodeText_at (n:Nat) (hn:100≤n) {a b:List UInt8} (ha:a.length=32) (hb:b.length=32):runE G ext (n+2) 102 [.blob a,.blob b]=some ⟨[.str (nodeT a b)],[],false⟩:=by
  rw [f102_run,f102_eq,refByte0 n 1 1 (by decide +kernel),step1,raw_at n hn ha,step1,toStr_s,toStr_s,show Nat.ble ([(1:UInt8)].length+a.length) maxLen=true from Nat.ble_eq_true_of_le (by rw [maxLen_eq]; simp; omega),cond_true,
    raw_at n hn hb,step1,toStr_s,show Nat.ble (([(1:UInt8)]++a).length+b.length) maxLen=true from Nat.ble_eq_true_of_le (by rw [maxLen_eq]; simp; omega),cond_true]
  rfl
theorem refRootText_at (n:Nat) (hn:2000≤n) (k:Nat) {a:List UInt8} (ha:a.length=32):runE G ext (n+3) 47 [.int (U (BitVec.ofNat 64 k)),.blob a]=some ⟨[.str (rootT k a)],[],false⟩:=by
  have hp:runE G ext (n+2) 99 [.int (U (BitVec.ofNat 64 k)),.int 8]=some ⟨[.str (bs (BitVec.ofNat 64 k) 8)],[],false⟩:=refPut_at n hn _ (m:=8) (by omega)
  rw [f47_run,f47_eq,refByte0 (n+1) 2 2 (by decide +kernel),step1,hp,step1,toStr_s,toStr_s,show Nat.ble ([(2:UInt8)].length+(bs (BitVec.ofNat 64 k) 8).length) maxLen=true from Nat.ble_eq_true_of_le (by rw [maxLen_eq,bs_len]; simp),cond_true,
    raw_at (n+1) (by omega) ha,step1,toStr_s,show Nat.ble (([(2:UInt8)]++bs (BitVec.ofNat 64 k) 8).length+a.length) maxLen=true from Nat.ble_eq_true_of_le (by rw [maxLen_eq]; simp [bs_len]; omega),cond_true]
  rfl
theorem refLeaf_runs {s:List UInt8} (hs:s.length≤140737488355328):RunsX 50 [.str s] ⟨[.blob (leafH s)],[],false⟩:=by
  refine Evt.succ (((refSha_runs (b:=leafT s) (by rw [leafT_len]; omega)).and (Evt.ge 10)).mono fun n hn=>?_)
  obtain ⟨m,rfl⟩:∃ m,n=m+2:=⟨n-2,by omega⟩
  rw [f50_run,f50_eq,refLeafText_at m hs,step1,toStr_s,hn.1,step1]
  rfl
theorem refNode_runs {a b:List UInt8} (ha:a.length=32) (hb:b.length=32):RunsX 49 [.blob a,.blob b] ⟨[.blob (nodeH a b)],[],false⟩:=by
  refine Evt.succ (((refSha_runs (b:=nodeT a b) (by rw [nodeT_len ha hb]; omega)).and (Evt.ge 200)).mono fun n hn=>?_)
  obtain ⟨m,rfl⟩:∃ m,n=m+2:=⟨n-2,by omega⟩
  rw [f49_run,f49_eq,refNodeText_at m (by omega) ha hb,step1,toStr_s,hn.1,step1]
  rfl
theorem refRoot_runs (k:Nat) {a:List UInt8} (ha:a.length=32):RunsX 19 [.int (U (BitVec.ofNat 64 k)),.blob a] ⟨[.blob (rootH k a)],[],false⟩:=by
  refine Evt.succ (((refSha_runs (b:=rootT k a) (by rw [rootT_len k ha]; omega)).and (Evt.ge 3000)).mono fun n hn=>?_)
  obtain ⟨m,rfl⟩:∃ m,n=m+3:=⟨n-3,by omega⟩
  rw [f19_run,f19_eq,refRootText_at m (by omega) k ha,step1,toStr_s,hn.1,step1]
  rfl
theorem lv_range:∀ (j:Nat) (n p:Int),1≤p→p < n→1≤lv j n p∧lv j n p < n
  | 0,n,p,h1,h2=>⟨h1,h2⟩
  | j+1,n,p,h1,h2=>by
    simp only [lv]
    split
    · exact lv_range j n (2*p) (by omega) (by assumption)
    · exact ⟨h1,h2⟩
theorem leftV_range {n:Int} (h:2≤n):1≤leftV n∧leftV n < n:=by
  unfold leftV
  rw [if_neg (by omega)]
  exact lv_range 64 n 1 (by omega) (by omega)
theorem pow_step {n p:Int} {j:Nat} (h:n≤p*2^(j+1)):n≤2*p*2^j:=by
  rw [Int.pow_succ,Int.mul_comm (2^j) 2,← Int.mul_assoc,Int.mul_comm p 2] at h
  exact h
theorem refLeft_l0 (run:Run) (m:Nat) (n:Int) (hn:n≤1152921504606846976):∀ (j k:Nat) (p:Int),n≤p*2^j→1≤p→p < n→j < k→f48_l0 run m k n p (2*p)=some ⟨[.int (lv j n p)],[],false⟩:=by
  intro j
  induction j with
  | zero =>
    intro k p h1 h2 h3 hk
    rw [Int.pow_zero] at h1
    omega
  | succ j ih =>
    intro k p h1 h2 h3 hk
    obtain ⟨k,rfl⟩:∃ j,k=j+1:=⟨k-1,by omega⟩
    rw [f48_l0_eq,w64 (x:=2*p*2) (by omega) (by omega)]
    simp only [lv]
    by_cases h:2*p < n
    · rw [ltI_t h,ltI_t (by omega),if_pos h,cond_true,cond_true,show 2*p*2=2*(2*p) by omega]
      exact ih k (2*p) (pow_step h1) (by omega) h (by omega)
    · rw [ltI_f h,if_neg h]; rfl
theorem refLeft_at (m:Nat) (hm:100≤m) {n:Int} (h2:n≤1152921504606846976):runE G ext (m+1) 48 [.int n]=some ⟨[.int (leftV n)],[],false⟩:=by
  unfold leftV
  obtain ⟨m,rfl⟩:∃ j,m=j+1:=⟨m-1,by omega⟩
  rw [f48_run,f48_eq,f48_l0_eq]
  by_cases h:n < 2
  · rw [if_pos h,ltI_f (by omega)]; rfl
  · rw [ltI_t (by omega),ltI_t (by omega),if_neg h,cond_true,cond_true,w64 (by omega) (by omega),show (1:Int)*2=2*1 by omega]
    exact refLeft_l0 _ _ n h2 64 m 1 (by rw [Int.one_mul,show (2:Int)^64=18446744073709551616 from rfl]; omega) (by omega) (by omega) (by omega)
def Blob32 (l:List AV):Prop:=∀ y∈l,∃ b,y=.blob b∧b.length=32
def zero32:List UInt8:=[0,0,0,0,0,0,0,0,0,0,0,0,0,0,0,0,0,0,0,0,0,0,0,0,0,0,0,0,0,0,0,0]
def topV:Nat→List AV→List UInt8
  | 0,_=>zero32
  | k+1,l=>if l.length=0 then zero32 else if l.length=1 then (nth l 0).toBlob else nodeH (topV k (l.take (leftV l.length).toNat)) (topV k (l.drop (leftV l.length).toNat))
theorem topV_len:∀ (k:Nat) (l:List AV),Blob32 l→(topV k l).length=32
  | 0,_,_=>rfl
  | k+1,l,h=>by
    simp only [topV]
    split
    · rfl
    · split
      · rename_i h1
        obtain ⟨b,hb,hl⟩:=h l[0] (List.getElem_mem _)
        rw [nth_lt (by omega),hb]; exact hl
      · exact hashV_len _
theorem refTop_runs:∀ (k:Nat) (l:List AV),l.length≤k→l.length≤1152921504606846976→Blob32 l→RunsX 20 [.slice l] ⟨[.blob (topV k l)],[],false⟩
  | 0,l,hk,_,_=>by
    refine Evt.succ (.of fun n=>?_)
    rw [f20_run,f20_eq,eqI_t (by omega)]; rfl
  | k+1,l,hk,hl,h=>by
    simp only [topV]
    by_cases h0:l.length=0
    · refine Evt.succ (.of fun n=>?_)
      rw [if_pos h0,f20_run,f20_eq,eqI_t (by omega)]; rfl
    · by_cases h1:l.length=1
      · refine Evt.succ (.of fun n=>?_)
        rw [if_neg h0,if_pos h1,f20_run,f20_eq,eqI_f (by omega),eqI_t (by omega),inR_yes (by omega) (by omega)]; rfl
      · rw [if_neg h0,if_neg h1]
        obtain ⟨p1,p2⟩:=leftV_range (n:=(l.length:Int)) (by omega)
        have pe:(leftV (l.length:Int))=(((leftV (l.length:Int)).toNat:Nat):Int):=by omega
        have hL:=fun m hm=>refLeft_at m hm (n:=(l.length:Int)) (by omega)
        generalize (leftV (l.length:Int)).toNat=p at pe
        rw [pe] at hL p1 p2
        have ha:Blob32 (l.take p):=fun y hy=>h y (List.mem_of_mem_take hy)
        have hb:Blob32 (l.drop p):=fun y hy=>h y (List.mem_of_mem_drop hy)
        have r1:=refTop_runs k (l.take p) (by simp; omega) (by simp; omega) ha
        have r2:=refTop_runs k (l.drop p) (by simp; omega) (by simp; omega) hb
        have r3:=refNode_runs (topV_len k _ ha) (topV_len k _ hb)
        refine Evt.succ ((((r1.and r2).and r3).and (Evt.ge 200)).mono fun n hn=>?_)
        obtain ⟨⟨⟨g1,g2⟩,g3⟩,g4⟩:=hn
        obtain ⟨m,rfl⟩:∃ m,n=m+1:=⟨n-1,by omega⟩
        have b1:boundsOk 0 (p:Int) (l.length:Int) (l.length:Int)=true:=by simp [boundsOk]; omega
        have b2:boundsOk (p:Int) (l.length:Int) (l.length:Int) (l.length:Int)=true:=by simp [boundsOk]; omega
        rw [f20_run,f20_eq,eqI_f (by omega),eqI_f (by omega),cond_false,cond_false,hL m (by omega),step1,toInt_i,b1,b2,Int.toNat_natCast,Int.toNat_natCast,List.drop_zero,List.take_length,Bool.and_true,cond_true,g1,step1,cond_true,g2,step1,toBlob_b,toBlob_b,g3,step1]
        rfl
def leavesV (l:List AV):List AV:=l.map fun y=>.blob (leafH y.toStr)
theorem leavesV_len (l:List AV):(leavesV l).length=l.length:=by simp [leavesV]
theorem leavesV_blob (l:List AV):Blob32 (leavesV l):=by
  intro y hy
  obtain ⟨x,_,rfl⟩:=List.mem_map.1 hy
  exact ⟨_,rfl,hashV_len _⟩
theorem leavesV_take {l:List AV} {i:Nat} (h:i < l.length):leavesV (l.take i)++[.blob (leafH (nth l i).toStr)]=leavesV (l.take (i+1)):=by
  rw [List.take_succ_eq_append_getElem h,nth_lt h]; simp only [leavesV,List.map_append,List.map_cons,List.map_nil]
def Short (l:List AV):Prop:=∀ i,i < l.length→(nth l i).toStr.length≤140737488355328
theorem refLeaves_runs {l:List AV} (hl:l.length≤100000) (hs:Short l):RunsX 21 [.slice l] ⟨[.slice (leavesV l)],[],true⟩:=by
  have hall:=Evt.all l.length fun i hi=>refLeaf_runs (hs i hi)
  refine Evt.succ ((hall.and (Evt.ge (l.length+1))).mono fun n hn=>?_)
  have key:∀ (j k i:Nat),i+j=l.length→j < k→f21_l0 (runE G ext n) n k l (leavesV (l.take i)) (i:Int)=some ⟨[.slice (leavesV l)],[],true⟩:=by
    intro j
    induction j with
    | zero =>
      intro k i hi hk
      obtain ⟨k,rfl⟩:∃ j,k=j+1:=⟨k-1,by omega⟩
      rw [f21_l0_eq,ltI_f (by omega),cond_false,List.take_of_length_le (by omega)]
      rfl
    | succ j ih =>
      intro k i hi hk
      obtain ⟨k,rfl⟩:∃ j,k=j+1:=⟨k-1,by omega⟩
      have ih':=ih k (i+1) (by omega) (by omega)
      rw [show ((i+1:Nat):Int)=(i:Int)+1 by omega,← leavesV_take (by omega)] at ih'
      rw [f21_l0_eq,ltI_t (by omega),cond_true,inR_nat (by omega),cond_true,Int.toNat_natCast,hn.1 i (by omega),step1,toBlob_b,show Nat.ble (((leavesV (l.take i)).length+1)*32) 140737488355328=true from Nat.ble_eq_true_of_le (by rw [leavesV_len]; simp; omega),cond_true,w64 (by omega) (by omega)]
      exact ih'
  rw [f21_run,f21_eq]
  exact key l.length n 0 (by omega) (by omega)
def rootV (l:List AV):List UInt8:=rootH l.length (topV l.length (leavesV l))
theorem wrapLen {n:Nat} (_h:n≤1152921504606846976):IntKind.wrap .u64 (n:Int)=U (BitVec.ofNat 64 n):=by
  unfold U; rw [wrap64,BitVec.toNat_ofNat]; omega
theorem refTreeRoot_runs {l:List AV} (hl:l.length≤100000) (hs:Short l):RunsX 5 [.slice l] ⟨[.blob (rootV l)],[],false⟩:=by
  refine Evt.succ ((((refLeaves_runs hl hs).and (refTop_runs l.length (leavesV l) (by rw [leavesV_len]; omega) (by rw [leavesV_len]; omega) (leavesV_blob l))).and (refRoot_runs l.length (topV_len l.length _ (leavesV_blob l)))).mono fun n hn=>?_)
  obtain ⟨⟨h1,h2⟩,h3⟩:=hn
  rw [f5_run,f5_eq,h1,step1f,toSlice_s,h2,step1,wrapLen (by omega),toBlob_b,h3,step1]
  rfl
end Go.Proofs.YtlkkebfjmbfgpaaGreatDoor.Ev

namespace Go.Proofs.YtlkkebfjmbfgpaaGreatDoor.Ev
open Go Go.RowKit
theorem step3 {α:Type} (a b c:AV) (fr:Bool) (K:AV→AV→AV→Option α):(some (⟨[a,b,c],[],fr⟩:Res)).bind (fun r=>nilV r.outs (consV r.vals fun v vs=>consV vs fun u us=>consV us fun w ws=>nilV ws (K v u w)))=K a b c:=rfl
theorem fld0 (a:AV) (l:List AV):(AV.agg (a::l)).fld 0=a:=rfl
theorem fld1 (a b:AV) (l:List AV):(AV.agg (a::b::l)).fld 1=b:=rfl
theorem fld2 (a b c:AV) (l:List AV):(AV.agg (a::b::c::l)).fld 2=c:=rfl
theorem leafH_len (s:List UInt8):(leafH s).length=32:=hashV_len _
theorem eqO_same (a:Bool):eqO a a=true:=by cases a <;> rfl
theorem eqS_false {a b:List UInt8} (h:eqS a b=false):a≠b:=of_decide_eq_false h
theorem eqI_true {a b:Int} (h:eqI a b=true):a=b:=of_decide_eq_true h
theorem inR_int {i:Int} {n:Nat} (h1:0≤i) (h2:i < n):inR i n=true:=inR_yes h1 h2
end Go.Proofs.YtlkkebfjmbfgpaaGreatDoor.Ev

namespace Go.Proofs.YtlkkebfjmbfgpaaGreatDoor.Ev
open Go Go.RowKit
def zero5:List AV:=[.int 0,.int 0,.int 0,.int 0,.int 0]
theorem countNone {L:Int}:RunsX 312 [.slice [],.int L] ⟨[.int 0],[],false⟩:=RunsX.of_eval 1 (ext_at (by kernel_rfl) 1)
theorem lenNone:RunsX 319 [.agg zero5] ⟨[.int 0],[],false⟩:=RunsX.of_eval 20 (by kernel_rfl)
theorem shlNone {L:Int} (h:0≤L):RunsX 310 [.agg zero5,.int L] ⟨[.agg zero5,.bool true],[],false⟩:=by
  refine Evt.succ (lenNone.mono fun m hm=>?_)
  rw [f310_run,f310_eq,ltI_f (by omega),cond_false,hm,step1,toInt_i,ltI_f (by omega),cond_false,step1,toInt_i,eqI_t rfl,cond_true]
  rfl
theorem ofNone:RunsX 311 [.int 0] ⟨[.agg zero5],[],false⟩:=Evt.succ (.of fun m=>by rw [f311_run,f311_eq]; rfl)
theorem valueNone {L:Int} (h:0≤L) (h2:L≤255):RunsX 297 [.slice [],.int L] ⟨[.agg zero5],[],false⟩:=by
  refine Evt.succ (((countNone (L:=L)).and (ofNone.and (shlNone h))).mono fun m hm=>?_)
  rw [f297_run,f297_eq,ltI_f (by omega),cond_false,ltI_f (by omega),cond_false,hm.1,step1,toInt_i,show IntKind.wrap .u64 0=0 from rfl,hm.2.1,step1,toAgg_a,hm.2.2,step2]
  rfl
theorem mayNone {L m:Int} (h:0 < L) (h2:L≤255) (hm:0 < m):RunsX 298 [.slice [],.int L,.int m] ⟨[.bool false],[],false⟩:=by
  refine Evt.succ ((countNone (L:=L)).mono fun k hk=>?_)
  rw [f298_run,f298_eq,eqI_f (by omega),cond_false,ltI_t (by omega),cond_true,leI_t (by omega),cond_true,hk,step1,toInt_i,leI_f (by omega)]
  rfl
theorem bestNone {m:Int} (hm:0 < m):RunsX 273 [.slice [],.int m] ⟨[.agg [.agg zero5,.int 0]],[],false⟩:=by
  have hv:=Evt.all 256 (p:=fun (i:Nat) n=>runE G ext n 297 [.slice [],.int (i:Int)]=some ⟨[.agg zero5],[],false⟩) fun i hi=>valueNone (by omega) (by omega)
  have hy:=Evt.all 255 (p:=fun (i:Nat) n=>runE G ext n 298 [.slice [],.int ((i+1:Nat):Int),.int m]=some ⟨[.bool false],[],false⟩) fun i hi=>mayNone (by omega) (by omega) hm
  refine Evt.succ (((hv.and hy).and (Evt.ge 300)).mono fun n hn=>?_)
  obtain ⟨⟨hv,hy⟩,hn⟩:=hn
  have key:∀ (j k i:Nat),i+j=256→j < k→f273_l0 (runE G ext n) n k [] m (i:Int) (List.replicate 5 (.int 0)) 0 zero5 0=some ⟨[.agg [.agg zero5,.int 0]],[],false⟩:=by
    intro j
    induction j with
    | zero =>
      intro k i hi hk
      obtain ⟨k,rfl⟩:∃ j,k=j+1:=⟨k-1,by omega⟩
      rw [f273_l0_eq,ltI_f (by omega),cond_false]
      rfl
    | succ j ih =>
      intro k i hi hk
      obtain ⟨k,rfl⟩:∃ j,k=j+1:=⟨k-1,by omega⟩
      have ih':=ih k (i+1) (by omega) (by omega)
      rw [f273_l0_eq,ltI_t (by omega),cond_true,hv i (by omega),step1,toAgg_a,w64 (x:=(i:Int)+1) (by omega) (by omega),show (i:Int)+1=((i+1:Nat):Int) by omega,ih']
      cases i with
      | zero=>rfl
      | succ i =>
        rw [show (((i+1:Nat):Int))=((i+1:Nat):Int) from rfl,eqI_f (show ¬ ((i+1:Nat):Int)=0 by omega),Bool.false_and,Bool.and_false,cond_false,hy i (by omega),step1,toBool_b,not_f,cond_true]
  rw [f273_run,f273_eq]
  exact key 256 n 0 rfl (by omega)
end Go.Proofs.YtlkkebfjmbfgpaaGreatDoor.Ev

namespace Go.Proofs.YtlkkebfjmbfgpaaGreatDoor.Ev
open Go Go.RowKit
set_option maxRecDepth 1000000
def wSide:AV:=.agg [.slice [.blob wIdg,.blob wIdb],.slice [.int 256,.int 0]]
theorem best_sat1:Sat Tryz.prog f273_info 273 [.slice [],.int 1] ⟨[.agg [.agg zero5,.int 0]],[],false⟩:=sat_of_runsX f273_at (bestNone (by decide))
theorem best_at1:assoc G2.fns 273=some f273_info:=by kernel_rfl
def doT0:Tab:=(273,([.slice [],.int 1],⟨[.agg [.agg zero5,.int 0]],[],false⟩))::dnT24
theorem doT0_ok:TabOk doT0:=tab_cons best_at1 best_sat1 dnT24_ok
theorem verdict_sat:Sat Tryz.prog f197_info 197 [wSide,wSide,.int 1] ⟨[.int 0],[],false⟩:=sat_by 599 ext2_ok doT0_ok f197_ok (by kernel_rfl)
theorem verdict_at:assoc G2.fns 197=some f197_info:=by kernel_rfl
def doT1:Tab:=(197,([wSide,wSide,.int 1],⟨[.int 0],[],false⟩))::doT0
theorem doT1_ok:TabOk doT1:=tab_cons verdict_at verdict_sat doT0_ok
theorem all_sat:Sat Tryz.prog f147_info 147 [.slice [wSide],.int 1] ⟨[.slice [.slice [.int 0]]],[],true⟩:=sat_by 599 ext2_ok doT1_ok f147_ok (by kernel_rfl)
theorem wins_sat:Sat Tryz.prog f89_info 89 [.slice [.slice [.int 0]]] ⟨[.slice [.int 0]],[],true⟩:=sat_by 599 ext2_ok doT1_ok f89_ok (by kernel_rfl)
theorem wins0_sat:Sat Tryz.prog f89_info 89 [.slice []] ⟨[.slice []],[],true⟩:=sat_by 599 ext2_ok doT1_ok f89_ok (by kernel_rfl)
end Go.Proofs.YtlkkebfjmbfgpaaGreatDoor.Ev

