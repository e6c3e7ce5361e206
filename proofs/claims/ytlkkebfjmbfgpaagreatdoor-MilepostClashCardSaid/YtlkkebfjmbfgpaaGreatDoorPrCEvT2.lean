import Derived.Test.YtlkkebfjmbfgpaaGreatDoorPrCEvT1
import Derived.Laws.MakeOwn
namespace Go.Proofs.YtlkkebfjmbfgpaaGreatDoor.Ev
open Go Go.RowKit
variable {c:Ctx} {gh:Ghost} {s:St} {a:Act} {w:World} {P:Program} {G:Env}
theorem run_bounds (isSlice:Bool) (len cap:Nat) (lo hi mx:Option Value) (l h m:Int) (hl:(lo=none∧l=0)∨∃ k,lo=some (.int k l)) (hh:(hi=none∧h=len∧mx=none)∨∃ k,hi=some (.int k h))
    (hm:mx=none∨∃ k,mx=some (.int k m)) (h0:0≤l) (h1:l≤h) (h2:h≤m) (h3:m≤len) (h4:len≤cap) :
    (Instr.sliceBounds isSlice len cap lo hi mx).run P w=.ok (l.toNat,h.toNat,if mx.isNone then cap else m.toNat) w:=by
  have bd:∀ (k:IntKind) (i:Int) (y:Nat) (code:BoundsCode),0≤i→i≤y→(Instr.sliceBound (.int k i) y code).run P w=.ok i.toNat w:=fun k i y code a b=>by
    simp [Instr.sliceBound,asIntOf,a,b]
  rcases hm with rfl | ⟨km,rfl⟩ <;> rcases hh with ⟨rfl,rfl,hn⟩ | ⟨kh,rfl⟩ <;> rcases hl with ⟨rfl,rfl⟩ | ⟨kl,rfl⟩
  case inl.inl.inl=>simp [Instr.sliceBounds]
  case inl.inl.inr =>
    simp only [Instr.sliceBounds,Sem.run_bind,Sem.run_pure,Result.andThen_ok]
    rw [bd kl l _ _ h0 (by simpa using h1)]
    simp
  case inl.inr.inl =>
    simp only [Instr.sliceBounds,Sem.run_bind,Sem.run_pure,Result.andThen_ok]
    rw [bd kh h _ _ (by omega) (by omega)]
    simp
  case inl.inr.inr =>
    simp only [Instr.sliceBounds,Sem.run_bind,Sem.run_pure,Result.andThen_ok]
    rw [bd kh h _ _ (by omega) (by omega)]
    simp only [Result.andThen_ok]
    rw [bd kl l _ _ h0 (by omega)]
    simp
  case inr.inl.inl=>cases hn
  case inr.inl.inr=>cases hn
  case inr.inr.inl =>
    simp only [Instr.sliceBounds,Sem.run_bind,Sem.run_pure,Result.andThen_ok]
    rw [bd km m _ _ (by omega) (by omega)]
    simp only [Result.andThen_ok]
    rw [bd kh h _ _ (by omega) (by omega)]
    simp
  case inr.inr.inr =>
    simp only [Instr.sliceBounds,Sem.run_bind,Sem.run_pure]
    rw [bd km m _ _ (by omega) (by omega)]
    simp only [Result.andThen_ok]
    rw [bd kh h _ _ (by omega) (by omega)]
    simp only [Result.andThen_ok]
    rw [bd kl l _ _ h0 (by omega)]
    simp
theorem boundE_some (h:Rel c gh s a w) {d n:Int} {o:Option Operand} (e:boundE s d o=some n):(o.map a.eval=none∧o=none∧n=d)∨∃ k,o.map a.eval=some (.int k n):=by
  cases o with
  | none=>simp [boundE] at e; subst e; exact .inl ⟨rfl,rfl,rfl⟩
  | some x =>
    obtain ⟨k,hk⟩:=h.opi e
    exact .inr ⟨k,by simp [hk]⟩
theorem boundsOk_iff {l h m n:Int} (e:boundsOk l h m n=true):0≤l∧l≤h∧h≤m∧m≤n:=by
  simpa [boundsOk,and_assoc] using e
theorem sliceK_tells (hP:EnvOk P G) (h:Rel c gh s a w) {t:TypeId} {T:Ty} {x:Operand} {lo hi mx:Option Operand} {f:Eff} (ht:G.tyOf t=some T)
    (hk:sliceK s T x lo hi mx some=some f):Tells P gh s w (Instr.sliceAt t (a.eval x) (lo.map a.eval) (hi.map a.eval) (mx.map a.eval)) f:=by
  have hT:=hP.ty _ _ ht
  have arr:∀ (n:Nat) (e:Ty) (te:TypeId),P.underlying t=some (.array n te)→TyOk P e te→T.elem=some e→T.count=n →
      (match s.ope x with
        | .ptr p=>bif p.t.beq T&&Nat.ble n maxLen then (boundE s 0 lo).bind fun l=>(boundE s (n:Int) hi).bind fun h=>(boundE s (n:Int) mx).bind fun m =>
            bif boundsOk l h m (n:Int)&&(mx.isNone || hi.isSome) then liveK s p (.ref p l.toNat h.toNat) some else none else none
        | _=>none)=some f→Tells P gh s w (Instr.sliceAt t (a.eval x) (lo.map a.eval) (hi.map a.eval) (mx.map a.eval)) f:=by
    intro n e te h1 hE hel hcn hk
    split at hk
    · rename_i p hp
      have hv:=h.ope x
      rw [hp] at hv
      obtain ⟨hb,hk⟩:=cond_some hk
      simp only [Bool.and_eq_true] at hb
      obtain ⟨l,hl,hk⟩:=bind_some hk
      obtain ⟨hh,hhh,hk⟩:=bind_some hk
      obtain ⟨m,hm,hk⟩:=bind_some hk
      obtain ⟨hok,hk⟩:=cond_some hk
      simp only [Bool.and_eq_true] at hok
      obtain ⟨b0,b1,b2,b3⟩:=boundsOk_iff hok.1
      obtain ⟨ob,hgen,hob,rfl⟩:=liveK_some hk
      have hpt:=Ty.beq_eq _ _ hb.1
      have hnm:=Nat.le_of_ble_eq_true hb.2
      obtain ⟨off,k1,k2⟩:=hv.2 hgen ob hob
      have hrun:=run_bounds (P:=P) (w:=w) false n n (lo.map a.eval) (hi.map a.eval) (mx.map a.eval) l hh m
        ((boundE_some h hl).imp (fun q=>⟨q.1,q.2.2⟩) id)
        (by
          rcases boundE_some h hhh with ⟨q1,q2,q3⟩ | ⟨k,q⟩
          · refine .inl ⟨q1,q3,?_⟩
            rcases boundE_some h hm with ⟨r1,r2,r3⟩ | ⟨k,r⟩
            · exact r1
            · subst q2; cases mx <;> simp at hok r
          · exact .inr ⟨k,q⟩)
        ((boundE_some h hm).imp (fun q=>q.1) id) b0 b1 b2 b3 (Nat.le_refl _)
      refine .mk (v:=.slice (some (if (if (mx.map a.eval).isNone then n else m.toNat)=l.toNat then (⟨gh.m p.id,off,none⟩:Addr) else (⟨gh.m p.id,off,none⟩:Addr).add (l.toNat*e.size))) (hh.toNat-l.toNat) ((if (mx.map a.eval).isNone then n else m.toNat)-l.toNat)) ?_ ?_
      · rw [k2]
        simp only [Instr.sliceAt,run_underlying h1,Instr.sureAddr,Sem.run_bind,Result.andThen_ok,Sem.run_pure,hrun,hE.size]
      · refine ⟨Nat.le_of_eq hgen,fun _ ob' hob'=>?_⟩
        rw [hob] at hob'
        cases hob'
        refine ⟨off,e,_,_,k1,by rw [hpt]; exact hel,by omega,by rw [hpt,hcn]; omega,rfl,?_,?_,fun hlt=>?_⟩
        · split <;> omega
        · split <;> omega
        · rw [if_neg (by split <;> omega)]
          unfold Addr.add
          by_cases hz:l.toNat*e.size=0 <;> simp [hz]
    · cases hk
  unfold sliceK at hk
  split at hk
  · split at hk
    · obtain ⟨u,hu,hk⟩:=bind_some hk
      obtain ⟨n,hx,rfl,hlen⟩:=(h.opv hu).str
      obtain ⟨l,hl,hk⟩:=bind_some hk
      obtain ⟨hh,hhh,hk⟩:=bind_some hk
      obtain ⟨hok,hk⟩:=cond_some hk
      obtain ⟨b0,b1,b2,b3⟩:=boundsOk_iff hok
      simp only [AV.toStr] at *
      rw [tell_some hk]
      have hsz:(ByteArray.mk n.toArray).size=n.length:=by simp [ByteArray.size]
      have hrun:=run_bounds (P:=P) (w:=w) false n.length n.length (lo.map a.eval) (hi.map a.eval) none l hh hh
        ((boundE_some h hl).imp (fun q=>⟨q.1,q.2.2⟩) id) ((boundE_some h hhh).imp (fun q=>⟨q.1,q.2.2,rfl⟩) id) (.inl rfl) b0 b1 (Int.le_refl _) b2 (Nat.le_refl _)
      refine .mk (v:=.string ⟨((n.take hh.toNat).drop l.toNat).toArray⟩) ?_ (.plain (.str_mk (by simp only [List.length_drop,List.length_take]; omega)))
      rw [hx]
      simp only [Instr.sliceAt,Instr.slice,Option.map_none,run_underlying hT.2,Sem.run_bind,Result.andThen_ok,Option.isSome_none,Bool.false_eq_true,if_false,Sem.run_pure]
      rw [hsz,hrun]
      simp only [Result.andThen_ok,bytes_extract]
    · cases hk
  · rename_i E
    obtain ⟨_,hpos,te,h1,hE⟩:=hT
    split at hk
    · rename_i p rl rh hr
      have hr:=refOf_some hr
      have hv:=h.ope x
      rw [hr] at hv
      obtain ⟨l,hl,hk⟩:=bind_some hk
      obtain ⟨hh,hhh,hk⟩:=bind_some hk
      obtain ⟨m,hm,hk⟩:=bind_some hk
      obtain ⟨hok,hk⟩:=cond_some hk
      rw [Bool.and_eq_true] at hok
      obtain ⟨hok,hel⟩:=hok
      simp only [Bool.and_eq_true] at hok
      obtain ⟨b0,b1,b2,b3⟩:=boundsOk_iff hok.1
      obtain ⟨ob,hgen,hob,rfl⟩:=liveK_some hk
      obtain ⟨off,e,ad,cap,k1,k2,k3,k4,k5,k6,k7,k8⟩:=hv.2 hgen ob hob
      rw [k2] at hel
      have hel:=Ty.beq_eq _ _ hel
      subst hel
      have hrun:=run_bounds (P:=P) (w:=w) true (rh-rl) cap (lo.map a.eval) (hi.map a.eval) (mx.map a.eval) l hh m
        ((boundE_some h hl).imp (fun q=>⟨q.1,q.2.2⟩) id)
        (by
          rcases boundE_some h hhh with ⟨q1,q2,q3⟩ | ⟨k,q⟩
          · refine .inl ⟨q1,q3,?_⟩
            rcases boundE_some h hm with ⟨r1,r2,r3⟩ | ⟨k,r⟩
            · exact r1
            · subst q2; cases mx <;> simp at hok r
          · exact .inr ⟨k,q⟩)
        ((boundE_some h hm).imp (fun q=>q.1) id) b0 b1 b2 b3 k6
      have hmm:hh.toNat≤(if (mx.map a.eval).isNone then cap else m.toNat)∧(if (mx.map a.eval).isNone then cap else m.toNat)≤cap:=by split <;> omega
      refine .mk (v:=.slice (if (if (mx.map a.eval).isNone then cap else m.toNat)=l.toNat then some ad else (some ad).map (·.add (l.toNat*e.size))) (hh.toNat-l.toNat) ((if (mx.map a.eval).isNone then cap else m.toNat)-l.toNat)) ?_ ?_
      · rw [k5]
        simp only [Instr.sliceAt,Instr.slice,run_underlying h1,Sem.run_bind,Result.andThen_ok,hrun,hE.size,Sem.run_pure]
      · have hs:∃ ad',(if (if (mx.map a.eval).isNone then cap else m.toNat)=l.toNat then some ad else (some ad).map (·.add (l.toNat*e.size)))=some ad'∧(l.toNat < hh.toNat→ad'=ad.add (l.toNat*e.size)):=by
          by_cases hc:(if (mx.map a.eval).isNone then cap else m.toNat)=l.toNat
          · rw [if_pos hc]; exact ⟨ad,rfl,fun _=>by omega⟩
          · rw [if_neg hc]; exact ⟨_,rfl,fun _=>rfl⟩
        obtain ⟨ad',hs1,hs2⟩:=hs
        rw [hs1]
        refine ⟨Nat.le_of_eq hgen,fun _ ob' hob'=>?_⟩
        rw [hob] at hob'
        cases hob'
        have hcount:rl+hh.toNat≤p.t.count:=by omega
        refine ⟨off,e,ad',_,k1,k2,by omega,hcount,by rw [show rl+hh.toNat-(rl+l.toNat)=hh.toNat-l.toNat by omega],by omega,by omega,fun hlt=>?_⟩
        rw [hs2 (by omega),k8 (by omega)]
        unfold Addr.add
        by_cases hz:l.toNat*e.size=0
        · rw [if_pos hz,Nat.add_mul,hz]; rfl
        · rw [if_neg hz,Nat.add_mul,Nat.add_assoc]
    · obtain ⟨u,hu,hk⟩:=bind_some hk
      obtain ⟨ao,len,cap,es,hx,rfl,g1,g2,g3,g4,g5⟩:=(h.opv hu).slice
      obtain ⟨l,hl,hk⟩:=bind_some hk
      obtain ⟨hh,hhh,hk⟩:=bind_some hk
      obtain ⟨m,hm,hk⟩:=bind_some hk
      obtain ⟨hok,hk⟩:=cond_some hk
      simp only [Bool.and_eq_true] at hok
      obtain ⟨b0,b1,b2,b3⟩:=boundsOk_iff hok.1
      simp only [AV.toSlice] at *
      rw [tell_some hk]
      have hrun:=run_bounds (P:=P) (w:=w) true len cap (lo.map a.eval) (hi.map a.eval) (mx.map a.eval) l hh m
        ((boundE_some h hl).imp (fun q=>⟨q.1,q.2.2⟩) id)
        (by
          rcases boundE_some h hhh with ⟨q1,q2,q3⟩ | ⟨k,q⟩
          · refine .inl ⟨q1,by omega,?_⟩
            rcases boundE_some h hm with ⟨r1,r2,r3⟩ | ⟨k,r⟩
            · exact r1
            · subst q2; cases mx <;> simp at hok r
          · exact .inr ⟨k,q⟩)
        ((boundE_some h hm).imp (fun q=>q.1) id) b0 b1 b2 (by omega) g2
      have hmm:hh.toNat≤(if (mx.map a.eval).isNone then cap else m.toNat)∧(if (mx.map a.eval).isNone then cap else m.toNat)≤cap:=by split <;> omega
      refine .mk (v:=.slice (if (if (mx.map a.eval).isNone then cap else m.toNat)=l.toNat then ao else ao.map (·.add (l.toNat*E.size))) (hh.toNat-l.toNat) ((if (mx.map a.eval).isNone then cap else m.toNat)-l.toNat)) ?_ ?_
      · rw [hx]
        simp only [Instr.sliceAt,Instr.slice,run_underlying h1,Sem.run_bind,Result.andThen_ok,hrun,hE.size,Sem.run_pure]
      · refine .plain ⟨[_],(val_one rfl _).symm,?_⟩
        simp only [Rep]
        refine ⟨_,_,_,_,rfl,rfl,by simp only [List.length_drop,List.length_take]; omega,by omega,by omega,fun e0=>?_,fun p hp i y hy=>?_⟩
        · have:ao=none:=by
            cases ao with
            | none=>rfl
            | some p=>exfalso; revert e0; simp only [Option.map_some]; generalize (if (Option.map a.eval mx).isNone=true then cap else m.toNat)=M; split <;> simp
          have:=g4 this
          omega
        · rw [List.getElem?_drop,List.getElem?_take] at hy
          split at hy
          · rename_i hlt
            rw [if_neg (by omega)] at hp
            obtain ⟨p0,rfl,rfl⟩:=Option.map_eq_some_iff.1 hp
            obtain ⟨ds,q1,q2,q3⟩:=g5 p0 rfl _ y hy
            refine ⟨ds,?_,q2,q3⟩
            rw [Addr.add_add,← Nat.add_mul]
            exact q1
          · cases hy
  · rename_i n
    obtain ⟨_,te,h1,h2,h3⟩:=hT
    exact arr n (.int .u8) te h1 ⟨h3,h2⟩ rfl rfl hk
  · rename_i n e
    obtain ⟨_,te,h1,h2⟩:=hT
    exact arr n e te h1 h2 rfl rfl hk
  · cases hk
theorem inR_iff {i:Int} {n:Nat} (h:inR i n=true):0≤i∧i < (n:Int):=by simpa [inR] using h
theorem indexAddrK_tells (hP:EnvOk P G) (h:Rel c gh s a w) {t:TypeId} {T:Ty} {x ix:Operand} {i:Int} {f:Eff} (ht:G.tyOf t=some T) (hi:s.opi ix=some i)
    (hk:indexAddrK s T x i some=some f):Tells P gh s w (Instr.indexAt t (a.eval x) (a.eval ix)) f:=by
  have hT:=hP.ty _ _ ht
  obtain ⟨ki,hix⟩:=h.opi hi
  have arr:∀ (n:Nat) (e:Ty) (te:TypeId),P.underlying t=some (.array n te)→TyOk P e te→(∀ (path:List Nat) (U:Ty) (off j:Nat),PathOk path U T off→j < n→PathOk (path++[j]) U e (off+j*e.size)) →
      indexPtrK s T e n x i some=some f→Tells P gh s w (Instr.indexAt t (a.eval x) (a.eval ix)) f:=by
    intro n e te h1 hE hpath hk
    unfold indexPtrK at hk
    split at hk
    · rename_i p hp
      have hv:=h.ope x
      rw [hp] at hv
      obtain ⟨hb,hk⟩:=cond_some hk
      obtain ⟨hr,hk⟩:=cond_some hk
      obtain ⟨r0,r1⟩:=inR_iff hr
      obtain ⟨ob,hgen,hob,rfl⟩:=liveK_some hk
      obtain ⟨off,k1,k2⟩:=hv.2 hgen ob hob
      rw [Ty.beq_eq _ _ hb] at k1
      refine .mk (v:=.pointer (some ((⟨gh.m p.id,off,none⟩:Addr).add (i.toNat*e.size)))) ?_ ?_
      · rw [k2,hix]
        simp [Instr.indexAt,asIntOf,run_underlying h1,Instr.sureAddr,r0,r1,hE.size]
      · refine ⟨Nat.le_of_eq hgen,fun _ ob' hob'=>?_⟩
        simp only at hob'
        rw [hob] at hob'
        cases hob'
        refine ⟨_,hpath _ _ _ i.toNat k1 (by omega),?_⟩
        unfold Addr.add
        by_cases hz:i.toNat*e.size=0 <;> simp [hz]
    · cases hk
  unfold indexAddrK at hk
  split at hk
  · rename_i E
    obtain ⟨_,hpos,te,h1,hE⟩:=hT
    split at hk
    · rename_i p rl rh hr
      have hr:=refOf_some hr
      have hv:=h.ope x
      rw [hr] at hv
      split at hk
      · rename_i e' hel
        obtain ⟨hb,hk⟩:=cond_some hk
        obtain ⟨hir,hk⟩:=cond_some hk
        obtain ⟨r0,r1⟩:=inR_iff hir
        obtain ⟨ob,hgen,hob,rfl⟩:=liveK_some hk
        obtain ⟨off,e,ad,cap,k1,k2,k3,k4,k5,k6,k7,k8⟩:=hv.2 hgen ob hob
        rw [hel] at k2
        simp only [Option.some.injEq] at k2
        subst k2
        have:=Ty.beq_eq _ _ hb
        subst this
        refine .mk (v:=.pointer (some (ad.add (i.toNat*e'.size)))) ?_ ?_
        · rw [k5,hix]
          simp [Instr.indexAt,asIntOf,run_underlying h1,r0,hE.size]
          intro h9
          omega
        · refine ⟨Nat.le_of_eq hgen,fun _ ob' hob'=>?_⟩
          simp only at hob'
          rw [hob] at hob'
          cases hob'
          rw [k8 (by omega)]
          refine ⟨off+(rl+i.toNat)*e'.size,elemPath hel k1 (by omega),?_⟩
          unfold Addr.add
          by_cases hz:i.toNat*e'.size=0
          · rw [if_pos hz,Nat.add_mul,hz]; rfl
          · rw [if_neg hz,Nat.add_mul,Nat.add_assoc]
      · cases hk
    · obtain ⟨u,hu,hk⟩:=bind_some hk
      obtain ⟨ao,len,cap,es,hx,rfl,g1,g2,g3,g4,g5⟩:=(h.opv hu).slice
      obtain ⟨hir,hk⟩:=cond_some hk
      obtain ⟨r0,r1⟩:=inR_iff hir
      simp only [AV.toSlice] at *
      rw [tell_some hk]
      cases ao with
      | none=>have:=g4 rfl; omega
      | some p =>
        obtain ⟨y,hy⟩:∃ y,es[i.toNat]?=some y:=⟨es[i.toNat]'(by omega),List.getElem?_eq_getElem (by omega)⟩
        obtain ⟨ds,q1,q2,q3⟩:=g5 p rfl _ y hy
        refine .mk (v:=.pointer (some (p.add (i.toNat*E.size)))) ?_ ?_
        · rw [hx,hix]
          simp [Instr.indexAt,asIntOf,run_underlying h1,r0,hE.size]
          intro h9
          omega
        · rw [nth_of hy,Rep.co_eq _ _ _ q3]
          exact ⟨_,ds,rfl,q1,q3⟩
  · rename_i n
    obtain ⟨_,te,h1,h2,h3⟩:=hT
    exact arr n (.int .u8) te h1 ⟨h3,h2⟩ (fun path U off j k1 hj=>by simpa [Ty.size] using PathOk.snocB path U n off j k1 hj) hk
  · rename_i n e
    obtain ⟨_,te,h1,h2⟩:=hT
    exact arr n e te h1 h2 (fun path U off j k1 hj=>PathOk.snocA path U n e off j k1 hj) hk
  · cases hk
where
  elemPath {T e U:Ty} {path:List Nat} {off j:Nat} (he:T.elem=some e) (hp:PathOk path U T off) (hj:j < T.count):PathOk (path++[j]) U e (off+j*e.size):=by
    cases T <;> simp [Ty.elem] at he
    case blob n=>subst he; simpa [Ty.size] using PathOk.snocB path U n off j hp hj
    case arr n f=>subst he; exact PathOk.snocA path U n f off j hp hj
theorem offset_eq {P:Program}:∀ (Fs:List Ty) (fs:List Field) (off i:Nat) (F:Ty),TyOkL P Fs fs off→Fs[i]?=some F→∃ f,fs[i]?=some f∧f.offset=off+Ty.sizeL (Fs.take i)∧TyOk P F f.type∧0 < F.size
  | [],_,_,_,_,_,h=>by simp at h
  | T::Ts,fs,off,0,F,h,hF=>by
    simp at hF
    subst hF
    simp only [TyOkL] at h
    obtain ⟨f,r,rfl,h1,_,h2,h3,_⟩:=h
    exact ⟨f,rfl,by simp [Ty.sizeL,h1],h3,h2⟩
  | T::Ts,fs,off,i+1,F,h,hF=>by
    simp only [TyOkL] at h
    obtain ⟨f,r,rfl,h1,_,h2,h3,h4⟩:=h
    obtain ⟨g,k1,k2,k3,k4⟩:=offset_eq Ts r _ i F h4 (by simpa using hF)
    exact ⟨g,by simpa using k1,by rw [k2]; simp only [List.take_succ_cons,Ty.sizeL]; omega,k3,k4⟩
theorem fieldAddrK_tells (hP:EnvOk P G) (h:Rel c gh s a w) {t:TypeId} {T:Ty} {x:Operand} {i:Nat} {f:Eff} (ht:G.tyOf t=some T)
    (hk:fieldAddrK s T x i some=some f):Tells P gh s w (Instr.fieldAt t (a.eval x) i) f:=by
  have hT:=hP.ty _ _ ht
  unfold fieldAddrK at hk
  split at hk
  · rename_i Fs
    obtain ⟨_,_,fs,h1,h2⟩:=hT
    split at hk
    · rename_i F hF
      obtain ⟨fd,q1,q2,q3,q4⟩:=offset_eq Fs fs.toList 0 i F h2 hF
      have q1':fs[i]?=some fd:=by simpa using q1
      have hsz:(sizeOf fd.type).run P w=.ok F.size w:=q3.size
      have run:∀ p:Addr,(Instr.fieldAt t (.pointer (some p)) i).run P w=.ok (.pointer (some (p.add fd.offset))) w:=fun p=>by
        have h0:¬ F.size=0:=by omega
        simp [Instr.fieldAt,run_underlying h1,q1',Instr.sureAddr,fieldPlace,hsz,h0]
      split at hk
      · rename_i T' y hp
        have hv:=h.ope x
        rw [hp] at hv
        obtain ⟨hb,hk⟩:=cond_some hk
        rw [tell_some hk]
        obtain ⟨p,cs,r1,r2,r3⟩:=hv
        rw [Ty.beq_eq _ _ hb] at r3
        simp only [Rep] at r3
        obtain ⟨xs,rfl,r3⟩:=r3
        obtain ⟨z,z1,z2,z3⟩:=RepL.at Fs cs xs i F r3 hF
        refine .mk (by rw [r1]; exact run p) ?_
        rw [fld_agg,nth_of z1,Rep.co_eq _ _ _ z2]
        refine ⟨_,_,rfl,fun j v hj=>?_,z2⟩
        rw [List.getElem?_take] at hj
        split at hj
        · rw [List.getElem?_drop] at hj
          rw [Addr.add_add,q2,Nat.zero_add]
          exact r2 _ v hj
        · cases hj
      · rename_i p hp
        have hv:=h.ope x
        rw [hp] at hv
        obtain ⟨hb,hk⟩:=cond_some hk
        obtain ⟨ob,hgen,hob,rfl⟩:=liveK_some hk
        obtain ⟨off,k1,k2⟩:=hv.2 hgen ob hob
        rw [Ty.beq_eq _ _ hb] at k1
        refine .mk (by rw [k2]; exact run _) ?_
        refine ⟨Nat.le_of_eq hgen,fun _ ob' hob'=>?_⟩
        simp only at hob'
        rw [hob] at hob'
        cases hob'
        refine ⟨_,PathOk.snocS _ _ _ _ i F k1 hF,?_⟩
        rw [q2,Nat.zero_add]
        unfold Addr.add
        by_cases hz:Ty.sizeL (Fs.take i)=0 <;> simp [hz]
      · cases hk
    · cases hk
  · cases hk
theorem fieldK_tells (hP:EnvOk P G) (h:Rel c gh s a w) {t:TypeId} {fs:List Ty} {F:Ty} {x:Operand} {i:Nat} {u:AV} (ht:G.tyOf t=some (.struct fs)) (hF:fs[i]?=some F) (hu:s.opv (.struct fs) x=some u) :
    Tells P gh s w (Instr.field t (a.eval x) i) ⟨.val F none (F.co (u.fld i)),[],[],[],[]⟩:=by
  obtain ⟨_,_,fd,h1,h2⟩:=hP.ty _ _ ht
  obtain ⟨f,q1,q2,q3,q4⟩:=offset_eq fs fd.toList 0 i F h2 hF
  have q1':fd[i]?=some f:=by simpa using q1
  obtain ⟨cs,hx,r⟩:=(h.opv hu).agg rfl
  simp only [Rep] at r
  obtain ⟨xs,rfl,r⟩:=r
  obtain ⟨z,z1,z2,z3⟩:=RepL.at fs cs xs i F r hF
  have hpart:=run_part (w:=w) q3 cs f.offset (by rw [q2]; omega)
  refine .mk (v:=F.val ((cs.drop f.offset).take F.size)) ?_ (.plain ?_)
  · rw [hx]
    simp [Instr.field,run_underlying h1,q1',asAgg,hpart]
  · rw [fld_agg,nth_of z1,Rep.co_eq _ _ _ z2]
    rw [q2,Nat.zero_add]
    exact ⟨_,rfl,z2⟩
theorem indexK_tells (hP:EnvOk P G) (h:Rel c gh s a w) {t:TypeId} {T:Ty} {x ix:Operand} {i:Int} {u:AV} {f:Eff} (ht:G.tyOf t=some T) (hi:s.opi ix=some i) (hu:s.opv T x=some u)
    (hk:indexK T u i some=some f):Tells P gh s w (Instr.index t (a.eval x) (a.eval ix)) f:=by
  have hT:=hP.ty _ _ ht
  obtain ⟨ki,hix⟩:=h.opi hi
  unfold indexK at hk
  split at hk
  · obtain ⟨hir,hk⟩:=cond_some hk
    obtain ⟨r0,r1⟩:=inR_iff hir
    obtain ⟨n,hx,rfl,hl⟩:=(h.opv hu).str
    simp only [AV.toStr] at *
    rw [tell_some hk]
    have hb:(ByteArray.mk n.toArray)[i.toNat]?=some (n.getD i.toNat 0):=by
      have h2:i.toNat < n.length:=by omega
      show (if h:i.toNat < (ByteArray.mk n.toArray).size then some ((ByteArray.mk n.toArray)[i.toNat]) else none)=_
      have h3:i.toNat < (ByteArray.mk n.toArray).size:=by simpa [ByteArray.size] using h2
      rw [dif_pos h3]
      simp [List.getD,h2]
      rfl
    refine .mk (v:=.int .u8 ((n.getD i.toNat 0).toNat:Int)) ?_ (.plain (.int_mk (u8_wf _)))
    rw [hx,hix]
    simp only [Instr.index,asIntOf,Sem.run_bind,Sem.run_pure,Result.andThen_ok,run_underlying hT.2,if_pos r0,hb]
  · rename_i n
    obtain ⟨hir,hk⟩:=cond_some hk
    obtain ⟨r0,r1⟩:=inR_iff hir
    rw [tell_some hk]
    obtain ⟨cs,hx,l,hl,rfl,rfl⟩:=(h.opv hu).agg rfl
    obtain ⟨_,te,h1,h2,h3⟩:=hT
    have hE:TyOk P (.int .u8) te:=⟨h3,h2⟩
    have hpart:=run_part (w:=w) hE (l.map byteV) (i.toNat*1) (by simp [Ty.size]; omega)
    simp only [Ty.size,Nat.mul_one] at hpart
    rw [byte_at (by omega),val_one rfl] at hpart
    refine .mk (v:=byteV (l.getD i.toNat 0)) ?_ (.plain (.int_mk (u8_wf _)))
    rw [hx,hix]
    have hsz:(sizeOf te).run P w=.ok 1 w:=hE.size
    simp only [Instr.index,asIntOf,Sem.run_bind,Sem.run_pure,Result.andThen_ok,run_underlying h1,if_pos (⟨r0,r1⟩:0≤i∧i < (n:Int)),hsz,Nat.mul_one,hpart]
  · rename_i n e
    obtain ⟨hir,hk⟩:=cond_some hk
    obtain ⟨r0,r1⟩:=inR_iff hir
    rw [tell_some hk]
    obtain ⟨cs,hx,r⟩:=(h.opv hu).agg rfl
    simp only [Rep] at r
    obtain ⟨xs,rfl,hn,hc,r⟩:=r
    obtain ⟨_,te,h1,hE⟩:=hT
    obtain ⟨y,hy⟩:∃ y,xs[i.toNat]?=some y:=⟨xs[i.toNat]'(by omega),List.getElem?_eq_getElem (by omega)⟩
    have ry:=r _ y hy
    have hb:(i.toNat+1)*e.size≤n*e.size:=Nat.mul_le_mul_right _ (by omega)
    rw [Nat.succ_mul] at hb
    have hpart:=run_part (w:=w) hE cs (i.toNat*e.size) (by omega)
    refine .mk (v:=e.val ((cs.drop (i.toNat*e.size)).take e.size)) ?_ (.plain ?_)
    · rw [hx,hix]
      simp only [Instr.index,asIntOf,Sem.run_bind,Sem.run_pure,Result.andThen_ok,run_underlying h1,if_pos (⟨r0,r1⟩:0≤i∧i < (n:Int)),hE.size,hpart]
    · rw [fld_agg,nth_of hy,Rep.co_eq _ _ _ ry]
      exact ⟨_,rfl,ry⟩
  · cases hk
theorem Rel.getPt (h:Rel c gh s a w) {p:Pt} {x:AV} {v:Value} (hv:PtRel gh s p v) (hx:s.getPt p=some x) :
    ∃ ob off cs,(s.slot p.id).ob=some ob∧p.gen=(s.slot p.id).gen∧PathOk p.path ob.t p.t off∧v=.pointer (some ⟨gh.m p.id,off,none⟩)∧Rep gh.S p.t cs x ∧
      (∀ j u,cs[j]?=some u→w.cell? ((⟨gh.m p.id,off,none⟩:Addr).add j)=some u)∧x=getP ob.t ob.x p.path:=by
  unfold St.getPt at hx
  obtain ⟨ob,hob,rfl⟩:=Option.map_eq_some_iff.1 hx
  obtain ⟨hgen,hob⟩:=obAt_some hob
  obtain ⟨off,k1,k2⟩:=hv.2 hgen ob hob
  obtain ⟨cs0,g1,g2,g3,g4⟩:=h.objs p.id ob hob
  have r:=getP_rep p.path ob.t p.t off cs0 ob.x k1 g3
  refine ⟨ob,off,_,hob,hgen,k1,k2,r.1,fun j u hj=>?_,rfl⟩
  rw [List.getElem?_take] at hj
  split at hj
  · rw [List.getElem?_drop] at hj
    have:(⟨gh.m p.id,off,none⟩:Addr).add j=⟨gh.m p.id,off+j,none⟩:=by
      unfold Addr.add
      by_cases hj0:j=0 <;> simp [hj0]
    rw [this,g1.cell]
    exact hj
  · cases hj
theorem load_at (hP:EnvOk P G) (h:Rel c gh s a w) {t:TypeId} {T:Ty} {x:Operand} {y:AV} (ht:G.tyOf t=some T) (hx:s.ope x=.at T y) :
    Tells P gh s w (Instr.loadAt t (a.eval x)) ⟨.val T none y,[],[],[],[]⟩:=by
  have hv:=h.ope x
  rw [hx] at hv
  obtain ⟨p,cs,r1,r2,r3⟩:=hv
  refine .mk (v:=T.val cs) ?_ (.plain ⟨_,rfl,r3⟩)
  rw [r1]
  simp only [Instr.loadAt,Instr.sureAddr,Sem.run_bind,Sem.run_pure,Result.andThen_ok]
  exact run_loadVar (hP.ty _ _ ht) p cs (Rep.len _ _ _ r3) (Snap.has_cells r2 h.agree)
theorem load_ptr (hP:EnvOk P G) (h:Rel c gh s a w) {t:TypeId} {x:Operand} {p:Pt} {y:AV} (ht:G.tyOf t=some p.t) (hx:s.ope x=.ptr p) (hy:s.getPt p=some y) :
    Tells P gh s w (Instr.loadAt t (a.eval x)) ⟨.val p.t none (p.t.co y),[],[],[p.id],[]⟩:=by
  have hv:=h.ope x
  rw [hx] at hv
  obtain ⟨ob,off,cs,k1,k2,k3,k4,k5,k6,_⟩:=h.getPt hv hy
  refine .mk (v:=p.t.val cs) ?_ (.plain ⟨_,rfl,by rw [Rep.co_eq _ _ _ k5]; exact k5⟩)
  rw [k4]
  simp only [Instr.loadAt,Instr.sureAddr,Sem.run_bind,Sem.run_pure,Result.andThen_ok]
  exact run_loadVar (hP.ty _ _ ht) _ cs (Rep.len _ _ _ k5) k6
end Go.Proofs.YtlkkebfjmbfgpaaGreatDoor.Ev
namespace Go.Proofs.YtlkkebfjmbfgpaaGreatDoor.Ev
open Go Go.RowKit
variable {c:Ctx} {gh:Ghost} {s:St} {a:Act} {w:World} {P:Program} {G:Env}
theorem alloc_old (w:World) (o:Obj) {k:Nat} (h:k < w.heap.size):(w.alloc o).heap[k]?=w.heap[k]?:=by
  show (w.heap.push o)[k]?=_
  rw [Array.getElem?_push,if_neg (by omega)]
theorem alloc_new (w:World) (o:Obj):(w.alloc o).heap[w.heap.size]?=some o:=by
  show (w.heap.push o)[w.heap.size]?=_
  rw [Array.getElem?_push,if_pos rfl]
def Snap.plus (S:Snap) (b k:Nat) (cs:List Value):Snap:=fun p =>
  match S p with
  | some v=>some v
  | none=>if p.block=b∧p.spot=none∧k≤p.off then cs[p.off-k]? else none
theorem Snap.le_plus (S:Snap) (b k:Nat) (cs:List Value):S.le (S.plus b k cs):=fun p v h=>by simp [Snap.plus,h]
theorem Snap.plus_new {S:Snap} {b k:Nat} {cs:List Value} {p:Addr} {v:Value} (h:S.plus b k cs p=some v):S p=some v∨(p.block=b∧p.spot=none∧k≤p.off∧cs[p.off-k]?=some v):=by
  unfold Snap.plus at h
  split at h
  · rename_i u hu
    cases h
    exact .inl hu
  · split at h
    · rename_i hc
      exact .inr ⟨hc.1,hc.2.1,hc.2.2,h⟩
    · cases h
theorem add_plain (b k j:Nat):(⟨b,k,none⟩:Addr).add j=⟨b,k+j,none⟩:=by
  unfold Addr.add
  by_cases h:j=0 <;> simp [h]
theorem Snap.plus_has {S:Snap} {b k:Nat} (cs:List Value) (h:S.off b k):(S.plus b k cs).has ⟨b,k,none⟩ cs:=fun j v hj=>by
  rw [add_plain]
  unfold Snap.plus
  rw [h ⟨b,k+j,none⟩ rfl (by simp)]
  simp [hj]
theorem Snap.plus_off {S:Snap} {b k:Nat} (cs:List Value) (h:S.off b k):(S.plus b k cs).off b (k+cs.length):=fun p hp hk=>by
  cases hs:S.plus b k cs p with
  | none=>rfl
  | some v =>
    rcases Snap.plus_new hs with h1 | ⟨_,_,h2,h3⟩
    · rw [h p hp (by omega)] at h1; cases h1
    · have:=(List.getElem?_eq_some_iff.1 h3).1
      omega
theorem Rel.off_new (h:Rel c gh s a w) {b:Nat} (hb:w.heap.size≤b):gh.S.off b 0:=fun p hp _=>by
  cases hs:gh.S p with
  | none=>rfl
  | some v =>
    have:=World.block_lt_of_cell? w p (h.agree p v hs)
    omega
theorem Rel.alloc (h:Rel c gh s a w) (w1:World) (h1:w1.os=w.os∧w1.tape=w.tape∧w1.output=w.output∧w1.heap=w.heap) (cs more:List Value) (tid:TypeId) :
    Rel c { gh with S:=gh.S.plus w.heap.size 0 cs } s a (w1.alloc (.cells (cs++more).toArray tid))∧Row (w1.alloc (.cells (cs++more).toArray tid)) w.heap.size (cs++more):=by
  have hrow:Row (w1.alloc (.cells (cs++more).toArray tid)) w.heap.size (cs++more):=by
    refine ⟨tid,?_⟩
    rw [← h1.2.2.2]
    exact alloc_new w1 _
  refine ⟨h.grow ⟨⟨h1.1,h1.2.1,h1.2.2.1,by simp [h1.2.2.2],fun k hk _=>?_⟩,Snap.le_plus _ _ _ _,fun p v hp=>?_,fun p v hp=>?_⟩,hrow⟩
  · rw [alloc_old w1 _ (by rw [h1.2.2.2]; exact hk),h1.2.2.2]
  · rcases Snap.plus_new hp with h2 | ⟨h2,_⟩
    · exact .inl h2
    · exact .inr (by omega)
  · rcases Snap.plus_new hp with h2 | ⟨h2,h3,_,h4⟩
    · have hlt:=World.block_lt_of_cell? w p (h.agree p v h2)
      rw [World.cell?_of_block (w:=w) (by rw [alloc_old w1 _ (by rw [h1.2.2.2]; exact hlt),h1.2.2.2])]
      exact h.agree p v h2
    · have:p=⟨w.heap.size,p.off,none⟩:=by cases p; simp at h2 h3 ⊢; exact ⟨h2,h3⟩
      rw [this,hrow.cell]
      have hlt:=(List.getElem?_eq_some_iff.1 h4).1
      simp only [Nat.sub_zero] at h4 hlt
      rw [List.getElem?_append_left hlt]
      exact h4
theorem arr_append {S:Snap} {e:Ty} {n m:Nat} {cs ds:List Value} {xs ys:List AV} (h:Rep S (.arr n e) cs (.agg xs)) (k:Rep S (.arr m e) ds (.agg ys)):Rep S (.arr (n+m) e) (cs++ds) (.agg (xs++ys)):=by
  induction n generalizing cs xs with
  | zero =>
    have hl:=Rep.len _ _ _ h
    simp [Ty.size] at hl
    simp only [Rep] at h
    obtain ⟨xs',hx,h1,_⟩:=h
    simp only [AV.agg.injEq] at hx
    subst hx
    have:xs=[]:=List.eq_nil_of_length_eq_zero h1
    subst this; subst hl
    simpa using k
  | succ n ih =>
    obtain ⟨d,cs',y,ys',rfl,rfl,h1,h2⟩:=arr_uncons h
    have:=arr_cons h1 (ih h2)
    rw [show n+1+m=n+m+1 by omega]
    simpa using this
theorem VRep.slice_mk {S:Snap} {e:Ty} {p:Addr} {n cap:Nat} {cs:List Value} {es:List AV} (h:Rep S (.arr n e) cs (.agg es)) (hc:S.has p cs) (h1:n≤cap) (h2:cap≤maxLen):VRep S (.slice e) (.slice (some p) n cap) (.slice es):=by
  refine ⟨[_],(val_one rfl _).symm,?_⟩
  have hn:es.length=n:=by
    simp only [Rep] at h
    obtain ⟨xs',hx,h1,_⟩:=h
    simp only [AV.agg.injEq] at hx
    rw [hx]; exact h1
  simp only [Rep]
  exact ⟨_,_,_,_,rfl,rfl,hn,h1,h2,(fun e=>by cases e),fun q hq=>by cases hq; exact arr_slice h hc⟩
theorem arr_len {S:Snap} {e:Ty} {n:Nat} {cs:List Value} {es:List AV} (h:Rep S (.arr n e) cs (.agg es)):es.length=n∧cs.length=n*e.size:=by
  have h2:=Rep.len _ _ _ h
  simp only [Rep] at h
  obtain ⟨xs',hx,h1,_⟩:=h
  simp only [AV.agg.injEq] at hx
  subst hx
  exact ⟨h1,by simpa [Ty.size] using h2⟩
theorem Rel.named (h:Rel c gh s a w) (d:Nat) (hd:d < s.owns.length) (n':Nat) (hn:s.own d < n') {e:Ty} {v:Value} {x:AV} (ho:OwnRow c.B gh.S w v e.size) (hv:VRep gh.S (.slice e) v x)
    (hdist:∀ g b,g≠d→(gh.τ g).ownBlock=some b→v.ownBlock≠some b) (hm:∀ id ob b,(s.slot id).ob=some ob→v.ownBlock=some b→gh.m id≠b) :
    ∃ gh',Rel c gh' ⟨s.tmps,s.objs,s.owns.set d n'⟩ a w∧EntRel gh' ⟨s.tmps,s.objs,s.owns.set d n'⟩ (.val (.slice e) (some (d,n')) x) v:=by
  refine ⟨_,h.bump d n' hd hn v e.size ho hdist hm,hv,fun g' n hg=>?_⟩
  simp only [Option.some.injEq,Prod.mk.injEq] at hg
  obtain ⟨rfl,rfl⟩:=hg
  rw [own_set hd,if_pos rfl]
  exact ⟨Nat.le_refl _,fun _=>⟨(upd_same _ _ _).symm,e,rfl,upd_same _ _ _⟩⟩
theorem dst_lt {d:Nat} (h:dstOk s (some d)=true):d < s.tmps.length:=Nat.le_of_ble_eq_true h
theorem Rel.dst_own (h:Rel c gh s a w) {d:Nat} (hd:dstOk s (some d)=true):d < s.owns.length:=by rw [h.now]; exact dst_lt hd
theorem Rel.dst_obj (h:Rel c gh s a w) {d:Nat} (hd:dstOk s (some d)=true):d < s.objs.length:=by rw [h.nob]; exact dst_lt hd
def Does (P:Program) (c:Ctx) (s:St) (a:Act) (w:World) (m:Sem Value) (f:Eff):Prop :=
  ∃ gh' v w',m.run P w=.ok v w'∧Rel c gh' (s.mid f) a w'∧EntRel gh' (s.mid f) f.e v
theorem Does.wp {o:Oper} {m:Sem Value} {f:Eff} {next:Act→World→Prop} {Q:Exit→Act→World→Prop} (t:Does P c s a w m f) (ho:(execOp a.eval o).run P w=(m.run P w).andThen fun v w'=>.ok (.value v) w')
    (hd:dstOk s o.dst=true) (hn:∀ gh' a' w',Rel c gh' (f.apply o.dst s) a' w'→next a' w'):o.wp P a w next Q:=by
  obtain ⟨gh',v,w',hr,h,he⟩:=t
  exact wp_value (by rw [ho,hr]; rfl) h he hd hn
theorem own_nil (B:Nat) (S:Snap) (w:World) (k:Nat):OwnRow B S w (.slice none 0 0) k:=.inl rfl
theorem nil_rep (S:Snap) (e:Ty):VRep S (.slice e) (.slice none 0 0) (.slice []):=by
  refine ⟨[_],(val_one rfl _).symm,?_⟩
  simp only [Rep]
  exact ⟨none,0,0,[],rfl,rfl,rfl,Nat.le_refl _,by simp [maxLen],fun _=>rfl,by simp⟩
theorem Rel.newSlice (h:Rel c gh s a w) (w1:World) (h1:w1.os=w.os∧w1.tape=w.tape∧w1.output=w.output∧w1.heap=w.heap) {e:Ty} {n cap:Nat} (cs more:List Value) (tid:TypeId) {es:List AV}
    (hr:Rep gh.S (.arr n e) cs (.agg es)) (hl:(cs++more).length=cap*e.size) (hn:n≤cap) (hc:cap≤maxLen) (d:Nat) (hd:d < s.owns.length) (n':Nat) (hn':s.own d < n') :
    ∃ gh',Rel c gh' ⟨s.tmps,s.objs,s.owns.set d n'⟩ a (w1.alloc (.cells (cs++more).toArray tid)) ∧
      EntRel gh' ⟨s.tmps,s.objs,s.owns.set d n'⟩ (.val (.slice e) (some (d,n')) (.slice es)) (.slice (some ⟨w.heap.size,0,none⟩) n cap):=by
  obtain ⟨h2,hrow⟩:=h.alloc w1 h1 cs more tid
  have hoff:=h.off_new (Nat.le_refl w.heap.size)
  refine h2.named d hd n' hn' ?_ (VRep.slice_mk (Rep.mono (Snap.le_plus _ _ _ _) _ _ _ hr) (Snap.plus_has cs hoff) hn hc) ?_ ?_
  · refine .inr ⟨w.heap.size,n,cap,cs++more,rfl,h.size,hrow,hl,hn,hc,?_⟩
    have:=Snap.plus_off cs hoff
    rw [(arr_len hr).2,Nat.zero_add] at this
    exact this
  · intro g b _ hg hv
    simp [Value.ownBlock] at hv
    exact h.fresh_τ (Nat.le_refl w.heap.size) g (by rw [hv]; exact hg)
  · intro id ob b ho hv
    simp [Value.ownBlock] at hv
    rw [← hv]
    exact h.fresh_m (Nat.le_refl w.heap.size) id ob ho
end Go.Proofs.YtlkkebfjmbfgpaaGreatDoor.Ev
namespace Go.Proofs.YtlkkebfjmbfgpaaGreatDoor.Ev
open Go Go.RowKit
variable {c:Ctx} {gh:Ghost} {s:St} {a:Act} {w:World} {P:Program} {G:Env}
theorem run_append_zero (t ty e:TypeId) (i:TypeInfo) (ht:P.underlying t=some (.slice e)) (hi:P.info? e=some i) (base ao:Option Addr) (n cap k:Nat) (h:n≤cap) :
    (Builtin.append_ #[t,t] ty #[.slice base n cap,.slice ao 0 k]).run P w=.ok (.slice base n cap) w:=by
  have hl:∀ x:Addr,(loadCells x 0).run P w=.ok #[] w:=fun x=>by simpa using run_loadCells_list (P:=P) w x [] (by simp)
  cases base <;> cases ao <;> simp [Builtin.append_,run_underlying ht,sizeOf,typeInfo,hi,Builtin.lenOf,h,Builtin.firstCells,hl,storeCells]
theorem run_append_in (t ty e:TypeId) (i:TypeInfo) (ht:P.underlying t=some (.slice e)) (hi:P.info? e=some i) (g sLen sCap:Nat) (cur:Array Value) (tid:TypeId) (hg:w.heap[g]?=some (.cells cur tid (0,0)))
    (p:Addr) (m k:Nat) (news:List Value) (hl:news.length=m*i.size) (hnews:∀ j u,news[j]?=some u→w.cell? (p.add j)=some u) (h1:∀ u∈news,u.oneCell'=true)
    (hroom:sLen+m≤sCap) (hfit:sLen*i.size+news.length≤cur.size) :
    (Builtin.append_ #[t,t] ty #[.slice (some ⟨g,0,none⟩) sLen sCap,.slice (some p) m k]).run P w =
      .ok (.slice (some ⟨g,0,none⟩) (sLen+m) sCap) (w.setRow g (cur.toList.take (sLen*i.size)++news++cur.toList.drop (sLen*i.size+news.length)).toArray):=by
  have hf:=run_firstCells_some (P:=P) w i.size m p m k news hl hnews
  have hst:=run_storeCells_at P g (sLen*i.size) tid news 0 cur w hg (by simpa using hfit) h1
  simp only [Nat.add_zero] at hst
  simp [Builtin.append_,run_underlying ht,sizeOf,typeInfo,hi,Builtin.lenOf,hroom,hf,Addr.add_lit,hst]
theorem setRow_turned (w:World) (g:Nat) (cs:Array Value):Turned g w (w.setRow g cs):=⟨rfl,rfl,rfl,by simp [World.setRow],fun k hk=>setRow_other w g k cs hk⟩
theorem zeroCells_list (z:Array Value) (n:Nat):(Builtin.zeroCells z n).toList.length=n*z.size:=by simp [Builtin.zeroCells]
theorem val_cells {T:Ty} {cs:List Value} (h:cs.length=T.size) (h1:∀ (j:Nat) v,cs[j]?=some v→v.oneCell'=true):(T.val cs).cells=cs.toArray:=by
  cases ha:T.isAgg with
  | true=>simp [Ty.val,ha,Value.cells]
  | false =>
    rw [size_one ha] at h
    match cs,h with
    | [v],_ =>
      have:=h1 0 v rfl
      rw [val_one ha]
      cases v <;> simp [Value.oneCell'] at this <;> rfl
theorem zeroCells_len (T:Ty):T.zeroCells.length=T.size:=by
  exact (zlen T)
where
  zlen:∀ T:Ty,T.zeroCells.length=T.size
    | .bool=>rfl
    | .int _=>rfl
    | .str=>rfl
    | .slice _=>rfl
    | .fn=>rfl
    | .pat _=>rfl
    | .clos _ _=>rfl
    | .blob n=>by simp [Ty.zeroCells,Ty.size]
    | .arr n e=>by simp [Ty.zeroCells,Ty.size,repCells_length,zlen e]
    | .struct fs=>by simp [Ty.zeroCells,Ty.size,zlenL fs]
  zlenL:∀ Ts:List Ty,(Ty.zeroCellsL Ts).length=Ty.sizeL Ts
    | []=>rfl
    | t::ts=>by simp [Ty.zeroCellsL,Ty.sizeL,zlen t,zlenL ts]
theorem zval_size {T:Ty}:(T.val T.zeroCells).cells.size=T.size:=by
  cases ha:T.isAgg with
  | true=>simp [Ty.val,ha,Value.cells,zeroCells_len]
  | false=>cases T <;> simp [Ty.isAgg] at ha <;> rfl
theorem list_one {cs:List Value} (h:∀ (j:Nat) v,cs[j]?=some v→v.oneCell'=true):∀ u∈cs,u.oneCell'=true:=fun u hu=>by
  obtain ⟨j,hj⟩:=List.mem_iff_getElem?.1 hu
  exact h j u hj
theorem appendK_does (hP:EnvOk P G) (h:Rel c gh s a w) {t rt:TypeId} {E:Ty} {b_:Nat} {d:Option Nat} {x y:Operand} {f:Eff} (ht:G.tyOf t=some (.slice E)) (hby:assoc G.bytes t=some b_) (hd:dstOk s d=true)
    (hk:appendK s d E b_ x y some=some f):Does P c s a w (Builtin.append_ #[t,t] rt #[a.eval x,a.eval y]) f:=by
  unfold appendK at hk
  cases d with
  | none=>cases hk
  | some d =>
  simp only at hk
  have hdo:=h.dst_own hd
  obtain ⟨⟨bs,ro⟩,hb,hk⟩:=bind_some hk
  obtain ⟨_,hpos,e,h1,hE⟩:=hP.ty _ _ ht
  obtain ⟨i,hi,hsz,hz⟩:=hE.base
  obtain ⟨e',i',h1',hi',hby',hbpos⟩:=hP.bytes _ _ hby
  rw [h1] at h1'
  simp only [Option.some.injEq,TypeDesc.slice.injEq] at h1'
  subst h1'
  rw [hi] at hi'
  simp only [Option.some.injEq] at hi'
  subst hi'
  subst hby'
  obtain ⟨ao,cap',news,hy,hml,hnr,hnews,hnil⟩:=h.src hb
  have hnl:=(arr_len hnr).2
  have hone:=list_one (Rep.one _ _ _ hnr)
  have grow:∀ (n cap:Nat) (base:Option Addr) (olds:List Value) (es:List AV),0 < bs.length→cap < n+bs.length→(base=none→n=0∧cap=0)→(∀ p,base=some p→∀ j u,olds[j]?=some u→w.cell? (p.add j)=some u) →
      Rep gh.S (.arr n E) olds (.agg es)→(n+bs.length)*i.bytes≤140737488355328→n+bs.length≤maxLen →
      ∃ cap2 more tid,(Builtin.append_ #[t,t] rt #[.slice base n cap,a.eval y]).run P w=.ok (.slice (some ⟨w.heap.size,0,none⟩) (n+bs.length) cap2) (w.drew.alloc (.cells (olds++news++more).toArray tid)) ∧
        (olds++news++more).length=cap2*E.size∧n+bs.length≤cap2∧cap2≤maxLen:=by
    intro n cap base olds es hm hg hbase hc ho hbytes h63
    have hol:=(arr_len ho).2
    have h63':((n+bs.length:Nat):Int)≤9223372036854775807:=by simp only [maxLen] at h63; omega
    cases ao with
    | none=>have:=(hnil rfl).1; rw [this] at hm; simp at hm
    | some p =>
      rw [hy]
      cases base with
      | none =>
        obtain ⟨rfl,rfl⟩:=hbase rfl
        have:olds=[]:=List.eq_nil_of_length_eq_zero (by simpa using hol)
        subst this
        simp only [Nat.zero_add,List.nil_append] at *
        have hr:=run_append_nil (P:=P) w t rt e i _ h1 hi hz p bs.length cap' news (by rw [hnl,hsz]) (hnews p rfl) hm h63' (by omega)
        refine ⟨grownCap w bs.length 0 e,(Builtin.zeroCells (E.val E.zeroCells).cells (grownCap w bs.length 0 e-bs.length)).toList,e,?_,?_,grownCap_ge _ _ _ _,grownCap_le_maxLen _ _ _ _ h63⟩
        · have harr:(news++(Builtin.zeroCells (E.val E.zeroCells).cells (grownCap w bs.length 0 e-bs.length)).toList).toArray=news.toArray++Builtin.zeroCells (E.val E.zeroCells).cells (grownCap w bs.length 0 e-bs.length):=by
            apply Array.ext'; simp
          rw [harr]
          exact hr
        · rw [List.length_append,zeroCells_list,zval_size,hnl,← Nat.add_mul]
          congr 1
          have:=grownCap_ge w bs.length 0 e
          omega
      | some q =>
        have hr:=run_append_grow (P:=P) w t rt e i _ h1 hi hz q n cap olds (by rw [hol,hsz]) (hc q rfl) p bs.length cap' news (by rw [hnl,hsz]) (hnews p rfl) hg h63' (growslice_fits hg hbytes)
        refine ⟨grownCap w (n+bs.length) cap e,(Builtin.zeroCells (E.val E.zeroCells).cells (grownCap w (n+bs.length) cap e-(n+bs.length))).toList,e,?_,?_,grownCap_ge _ _ _ _,grownCap_le_maxLen _ _ _ _ h63⟩
        · have harr:(olds++news++(Builtin.zeroCells (E.val E.zeroCells).cells (grownCap w (n+bs.length) cap e-(n+bs.length))).toList).toArray=olds.toArray++news.toArray++Builtin.zeroCells (E.val E.zeroCells).cells (grownCap w (n+bs.length) cap e-(n+bs.length)):=by
            apply Array.ext'; simp
          rw [harr]
          exact hr
        · rw [List.length_append,List.length_append,zeroCells_list,zval_size,hol,hnl,← Nat.add_mul,← Nat.add_mul]
          congr 1
          have:=grownCap_ge w (n+bs.length) cap e
          omega
  have drew:w.drew.os=w.os∧w.drew.tape=w.tape∧w.drew.output=w.output∧w.drew.heap=w.heap:=⟨rfl,rfl,rfl,rfl⟩
  have hbd:∀ n:Nat,n*i.bytes≤140737488355328→n≤maxLen:=fun n hn=>by
    have:n*1≤n*i.bytes:=Nat.mul_le_mul_left _ hbpos
    simp only [maxLen]; omega
  have nodist:∀ g b,g≠d→(gh.τ g).ownBlock=some b→(Value.slice none 0 0).ownBlock≠some b:=fun _ _ _ _ e=>by cases e
  split at hk
  · rename_i x0 _
    obtain ⟨hle,hk⟩:=cond_some hk
    have hle:=Nat.le_of_ble_eq_true hle
    simp only [Option.some.injEq] at hk
    subst hk
    have hmid:s.mid ⟨.val (.slice E) (some (d,s.own d+1)) (.slice bs),[],[(d,s.own d+1)],ro,[d]⟩=⟨s.tmps,s.objs,s.owns.set d (s.own d+1)⟩:=rfl
    show ∃ gh' v w',_∧_∧_
    rw [hmid]
    by_cases hm:bs.length=0
    · have:bs=[]:=List.eq_nil_of_length_eq_zero hm
      subst this
      obtain ⟨gh',r1,r2⟩:=h.named d hdo (s.own d+1) (by omega) (own_nil c.B gh.S w E.size) (nil_rep gh.S E) nodist (fun id ob b _ e=>by cases e)
      refine ⟨gh',.slice none 0 0,w,?_,r1,r2⟩
      rw [hy]
      exact run_append_zero t rt e i h1 hi none ao 0 0 cap' (Nat.le_refl _)
    · obtain ⟨cap2,more,tid,q1,q2,q3,q4⟩:=grow 0 0 none [] [] (by omega) (by omega) (fun _=>⟨rfl,rfl⟩) (fun p e=>by cases e) arr_nil (by simpa using hle) (by simpa using hbd _ hle)
      simp only [Nat.zero_add,List.nil_append] at q1 q2 q3 q4
      obtain ⟨gh',r1,r2⟩:=h.newSlice w.drew drew news more tid hnr q2 q3 q4 d hdo (s.own d+1) (by omega)
      exact ⟨gh',_,_,q1,r1,r2⟩
  · rename_i x _ _ T' g n av _ _ hx
    obtain ⟨hc,hk1⟩:=cond_some hk
    clear hk
    obtain ⟨hle,hk2⟩:=cond_some hk1
    clear hk1
    simp only [Bool.and_eq_true] at hc
    obtain ⟨⟨hc1,hc2⟩,hc3⟩:=hc
    have hT':=Ty.beq_eq _ _ hc1
    subst hT'
    have hg2:=Nat.eq_of_beq_eq_true hc2
    have hg3:g < s.owns.length:=Nat.le_of_ble_eq_true hc3
    have hle:=Nat.le_of_ble_eq_true hle
    simp only [Option.some.injEq] at hk2
    have hv:=h.ope x
    rw [hx] at hv
    obtain ⟨hv1,hv2⟩:=hv
    obtain ⟨_,hv3⟩:=hv2 g n rfl
    obtain ⟨hτ,E',hE',hzg⟩:=hv3 hg2.symm
    simp only [Ty.slice.injEq] at hE'
    subst hE'
    obtain ⟨bo,cap,es,olds,hxe,rfl,g3,g4,g5,g6,g7⟩:=hv1.cells
    simp only [AV.toSlice] at hle hk2
    have hown:=h.owns g
    rw [← hτ,hxe,hzg] at hown
    have hb1:=h.bump g (n+1) hg3 (by omega) (.slice none 0 0) E.size (own_nil _ _ _ _) (fun _ _ _ _ e=>by cases e) (fun id ob b _ e=>by cases e)
    have hs1:∀ j,St.own ⟨s.tmps,s.objs,s.owns.set g (n+1)⟩ j=if j=g then n+1 else s.own j:=fun j=>own_set hg3
    have hd1:d < (s.owns.set g (n+1)).length:=by simpa using hdo
    have hn1:St.own ⟨s.tmps,s.objs,s.owns.set g (n+1)⟩ d < (bif Nat.beq g d then n+1 else s.own d)+1:=by
      rw [hs1]
      cases hgd:Nat.beq g d with
      | true=>have:=Nat.eq_of_beq_eq_true hgd; rw [if_pos this.symm]; simp
      | false =>
        have:d≠g:=fun e=>by subst e; simp at hgd
        rw [if_neg this]; simp
    generalize hnn:(bif Nat.beq g d then n+1 else s.own d)+1=n' at hk2 hn1
    subst hk2
    show ∃ gh' v w',_∧Rel c gh' ⟨s.tmps,s.objs,(s.owns.set g (n+1)).set d n'⟩ a w'∧EntRel gh' ⟨s.tmps,s.objs,(s.owns.set g (n+1)).set d n'⟩ (.val (.slice E) (some (d,n')) (.slice (es++bs))) v
    have hlen63:=hbd _ hle
    have apartτ:∀ b,(gh.τ g).ownBlock=some b→∀ j,(upd gh.τ g (Value.slice none 0 0) j).ownBlock≠some b:=fun b hb j e=>by
      by_cases hj:j=g
      · subst hj; rw [upd_same] at e; cases e
      · rw [upd_ne _ _ hj] at e; exact hj (h.odist j g b e hb)
    by_cases hm:bs.length=0
    · have:bs=[]:=List.eq_nil_of_length_eq_zero hm
      subst this
      rw [List.append_nil]
      have hvr:VRep gh.S (.slice E) (.slice bo es.length cap) (.slice es):=by rw [← hxe]; exact hv1
      obtain ⟨gh',r1,r2⟩:=hb1.named d hd1 n' hn1 hown hvr
        (fun j b _ hj e=>apartτ b (by rw [← hτ,hxe]; exact e) j hj)
        (fun id ob b ho e=>h.mo id ob g b ho (by rw [← hτ,hxe]; exact e))
      refine ⟨gh',.slice bo es.length cap,w,?_,r1,r2⟩
      rw [hy,hxe]
      exact run_append_zero t rt e i h1 hi bo ao _ _ cap' g3
    · by_cases hroom:es.length+bs.length≤cap
      ·
        rcases hown with h0 | ⟨gb,n0,cap0,cs,hv0,k1,k2,k3,k4,k5,k6⟩
        · simp only [Value.slice.injEq] at h0
          omega
        · simp only [Value.slice.injEq] at hv0
          obtain ⟨rfl,rfl,rfl⟩:=hv0
          obtain ⟨tid,k2'⟩:=k2
          cases ao with
          | none=>have:=(hnil rfl).1; rw [this] at hm; simp at hm
          | some p =>
            have hcapE:(es.length+bs.length)*E.size≤cap*E.size:=Nat.mul_le_mul_right _ hroom
            rw [Nat.add_mul] at hcapE
            have hrun:=run_append_in (P:=P) t rt e i h1 hi gb es.length cap cs.toArray tid k2' p bs.length cap' news (by rw [hnl,hsz]) (hnews p rfl) hone hroom (by rw [hsz]; simp; omega)
            rw [hsz] at hrun
            simp only at hrun
            generalize hcs':cs.take (es.length*E.size)++news++cs.drop (es.length*E.size+news.length)=cs' at hrun
            have hτb:(gh.τ g).ownBlock=some gb:=by rw [← hτ,hxe]; rfl
            have hnewblk:(w.setRow gb cs'.toArray).heap[gb]?=some (.cells cs'.toArray tid (0,0)):=setRow_heap w gb _ _ _ _ k2'
            have hrow':Row (w.setRow gb cs'.toArray) gb cs':=⟨tid,hnewblk⟩
            have holdlen:(cs.take (es.length*E.size)).length=es.length*E.size:=by simp; omega
            have hfill:=hb1.fill (w':=w.setRow gb cs'.toArray) (S':=gh.S.plus gb (es.length*E.size) news) gb k1 (apartτ gb hτb) (fun id ob ho=>h.mo id ob g gb ho hτb)
              (setRow_turned w gb cs'.toArray) (Snap.le_plus _ _ _ _)
              (fun q v hq=>(Snap.plus_new hq).imp id (fun z=>z.1))
              (fun q v hq=>by
                rcases Snap.plus_new hq with z | ⟨z1,z2,z3,z4⟩
                · have hcell:=h.agree q v z
                  by_cases hqb:q.block=gb
                  · have hqo:q.off < es.length*E.size:=by
                      rcases Nat.lt_or_ge q.off (es.length*E.size) with hh | hh
                      · exact hh
                      · rw [k6 q hqb hh] at z; cases z
                    have hsp:q.spot=none:=by
                      unfold World.cell? at hcell
                      rw [hqb,k2'] at hcell
                      cases hq2:q.spot with
                      | none=>rfl
                      | some u=>simp [hq2] at hcell
                    have hqq:q=⟨gb,q.off,none⟩:=by cases q; simp at hqb hsp ⊢; exact ⟨hqb,hsp⟩
                    rw [hqq] at hcell ⊢
                    rw [hrow'.cell,← hcs',List.append_assoc,List.getElem?_append_left (by omega),List.getElem?_take,if_pos hqo]
                    rw [Row.cell ⟨tid,k2'⟩] at hcell
                    exact hcell
                  · rw [World.cell?_of_block (setRow_other w gb q.block _ hqb)]
                    exact hcell
                · have hqq:q=⟨gb,q.off,none⟩:=by cases q; simp at z1 z2 ⊢; exact ⟨z1,z2⟩
                  rw [hqq,hrow'.cell,← hcs',List.append_assoc,List.getElem?_append_right (by omega),holdlen,List.getElem?_append_left (List.getElem?_eq_some_iff.1 z4).1]
                  exact z4)
            have hhas:(gh.S.plus gb (es.length*E.size) news).has ⟨gb,0,none⟩ (olds++news):=by
              have z0:=Snap.has_mono (Snap.le_plus gh.S gb (es.length*E.size) news) (g6 _ rfl)
              have z1:(gh.S.plus gb (es.length*E.size) news).has ((⟨gb,0,none⟩:Addr).add (0+olds.length)) news:=by
                rw [add_plain,(arr_len g5).2]
                simpa using Snap.plus_has (S:=gh.S) (k:=es.length*E.size) news k6
              have:=Snap.has_append (m:=0) (p:=⟨gb,0,none⟩) (by simpa [Addr.add] using z0) z1
              simpa [Addr.add] using this
            have hrep:=arr_append (Rep.mono (Snap.le_plus gh.S gb (es.length*E.size) news) _ _ _ g5) (Rep.mono (Snap.le_plus gh.S gb (es.length*E.size) news) _ _ _ hnr)
            obtain ⟨gh',r1,r2⟩:=hfill.named d hd1 n' hn1 (v:=.slice (some ⟨gb,0,none⟩) (es.length+bs.length) cap)
              (.inr ⟨gb,es.length+bs.length,cap,cs',rfl,k1,hrow',by rw [← hcs']; simp; omega,hroom,g4,by rw [Nat.add_mul,← hnl]; exact Snap.plus_off news k6⟩)
              (VRep.slice_mk hrep hhas hroom g4)
              (fun j b _ hj e=>by
                simp only [Value.ownBlock,Option.some.injEq] at e
                subst e
                exact apartτ gb hτb j hj)
              (fun id ob b ho e=>by
                simp only [Value.ownBlock,Option.some.injEq] at e
                subst e
                exact h.mo id ob g gb ho hτb)
            refine ⟨gh',_,_,?_,r1,r2⟩
            rw [hy,hxe]
            exact hrun
      ·
        have hbase:bo=none→es.length=0∧cap=0:=fun e=>by
          have:=g7 e
          exact ⟨by rw [this.1]; rfl,this.2.2⟩
        obtain ⟨cap2,more,tid,q1,q2,q3,q4⟩:=grow es.length cap bo olds es (by omega) (by omega) hbase (fun p e j u hj=>h.agree _ _ (g6 p e j u hj)) g5 hle hlen63
        obtain ⟨gh',r1,r2⟩:=hb1.newSlice w.drew drew (olds++news) more tid (arr_append g5 hnr) q2 q3 q4 d hd1 n' hn1
        refine ⟨gh',_,_,?_,r1,r2⟩
        rw [hxe]
        exact q1
  · cases hk
end Go.Proofs.YtlkkebfjmbfgpaaGreatDoor.Ev
namespace Go.Proofs.YtlkkebfjmbfgpaaGreatDoor.Ev
open Go Go.RowKit
variable {c:Ctx} {gh:Ghost} {s:St} {a:Act} {w:World} {P:Program} {G:Env}
theorem Rel.newVar (h:Rel c gh s a w) {t:TypeId} {T:Ty} {d:Nat} (hd:dstOk s (some d)=true) {v:Value} {x:AV} (hv:VRep gh.S T v x) :
    ∃ gh',(Go.newVar t v).run P w=.ok ⟨w.heap.size,0,none⟩ (w.alloc (.cells v.cells t)) ∧
      Rel c gh' ⟨s.tmps,s.objs.set d ⟨(s.slot d).gen+1,some ⟨T,x⟩⟩,s.owns⟩ a (w.alloc (.cells v.cells t)) ∧
      EntRel gh' ⟨s.tmps,s.objs.set d ⟨(s.slot d).gen+1,some ⟨T,x⟩⟩,s.owns⟩ (.ptr ⟨T,d,(s.slot d).gen+1,[]⟩) (.pointer (some ⟨w.heap.size,0,none⟩))∧gh'.S=gh.S:=by
  obtain ⟨cs,rfl,r⟩:=hv
  have hc:=val_cells (Rep.len _ _ _ r) (Rep.one _ _ _ r)
  have hrow:Row (w.alloc (.cells (T.val cs).cells t)) w.heap.size cs:=⟨t,by rw [hc]; exact alloc_new w _⟩
  have hg:Rel c gh s a (w.alloc (.cells (T.val cs).cells t)):=by
    refine h.grow (S':=gh.S) ⟨⟨rfl,rfl,rfl,by simp,fun k hk _=>alloc_old w _ hk⟩,Snap.le_refl _,fun p v hp=>.inl hp,fun p v hp=>?_⟩
    have hlt:=World.block_lt_of_cell? w p (h.agree p v hp)
    rw [World.cell?_of_block (w:=w) (alloc_old w _ hlt)]
    exact h.agree p v hp
  refine ⟨_,rfl,hg.newOb d _ (h.dst_obj hd) (Nat.lt_succ_self _) w.heap.size ⟨T,x⟩ ⟨cs,hrow,.inl h.size,r,h.off_new (Nat.le_refl _)⟩ (h.fresh_m (Nat.le_refl _)) (h.fresh_τ (Nat.le_refl _)),?_,rfl⟩
  simp only [EntRel,PtRel,slot_set (h.dst_obj hd),if_pos]
  refine ⟨Nat.le_refl _,fun _ ob hob=>?_⟩
  simp only [Option.some.injEq] at hob
  subst hob
  exact ⟨0,⟨rfl,rfl⟩,by rw [upd_same]⟩
theorem tellNew_does (h:Rel c gh s a w) {t:TypeId} {T:Ty} {d:Option Nat} (hd:dstOk s d=true) {v:Value} {x:AV} {f:Eff} (hv:VRep gh.S T v x) (hk:tellNew s d T x some=some f) :
    Does P c s a w (do pure (.pointer (some (← Go.newVar t v)))) f:=by
  cases d with
  | none=>cases hk
  | some d =>
    simp only [tellNew,Option.some.injEq] at hk
    subst hk
    obtain ⟨gh',h1,h2,h3,_⟩:=h.newVar (P:=P) (t:=t) hd hv
    exact ⟨gh',_,_,by simp [h1],h2,h3⟩
theorem tellOwn_nil (h:Rel c gh s a w) {d:Option Nat} (hd:dstOk s d=true) {E:Ty} {f:Eff} {m:Sem Value} (hm:m.run P w=.ok (.slice none 0 0) w) (hk:tellOwn s d (.slice E) (.slice []) some=some f):Does P c s a w m f:=by
  cases d with
  | none=>cases hk
  | some d =>
    simp only [tellOwn,Option.some.injEq] at hk
    subst hk
    obtain ⟨gh',r1,r2⟩:=h.named d (h.dst_own hd) (s.own d+1) (by omega) (own_nil c.B gh.S w E.size) (nil_rep gh.S E) (fun _ _ _ _ e=>by cases e) (fun id ob b _ e=>by cases e)
    exact ⟨gh',_,w,hm,r1,r2⟩
theorem Rel.setPt (h:Rel c gh s a w) {p:Pt} {y:AV} {z:Nat × OSlot} {v u:Value} (hv:PtRel gh s p v) (hy:VRep gh.S p.t u y) (hz:s.setPt p y=some z) :
    ∃ ad w',v=.pointer (some ad)∧(∀ t,TyOk P p.t t→(storeVar t ad u).run P w=.ok () w')∧Rel c gh ⟨s.tmps,s.objs.set z.1 z.2,s.owns⟩ a w':=by
  unfold St.setPt at hz
  obtain ⟨ob,hob,rfl⟩:=Option.map_eq_some_iff.1 hz
  obtain ⟨hgen,hob⟩:=obAt_some hob
  obtain ⟨off,k1,k2⟩:=hv.2 hgen ob hob
  obtain ⟨cs0,⟨tid,g1⟩,g2,g3,g4⟩:=h.objs p.id ob hob
  obtain ⟨ds,rfl,ry⟩:=hy
  have hdl:=Rep.len _ _ _ ry
  have hle:=PathOk.le _ _ _ _ k1
  have hcl:=Rep.len _ _ _ g3
  have hc:=val_cells hdl (Rep.one _ _ _ ry)
  have hst:=run_storeCells_at P (gh.m p.id) off tid ds 0 cs0.toArray w g1 (by simp; omega) (list_one (Rep.one _ _ _ ry))
  simp only [Nat.add_zero] at hst
  have hset:=setP_rep p.path ob.t p.t off cs0 ds ob.x y k1 g3 ry
  rw [← hdl] at hset
  refine ⟨_,w.setRow (gh.m p.id) (cs0.take off++ds++cs0.drop (off+ds.length)).toArray,k2,fun t ht=>?_,?_⟩
  · unfold storeVar
    have hne:¬ (p.t.val ds).cells.size≠p.t.size:=by rw [hc]; simpa using hdl
    simp only [Sem.run_bind,ht.size,Result.andThen_ok]
    rw [if_neg hne,hc]
    simpa using hst
  · rw [hgen]
    exact h.turn p.id (by
      rcases Nat.lt_or_ge p.id s.objs.length with hh | hh
      · exact hh
      · simp [St.slot,List.getD,List.getElem?_eq_none hh] at hob) ob hob (setRow_turned w _ _) _ ⟨tid,setRow_heap w _ _ _ _ _ g1⟩ _ hset
theorem fold_cells:∀ (vs:List Value) (k off:Nat) (cells:Array Value),off+k+vs.length≤cells.size →
    (vs.zipIdx k).foldl (fun cs (x:Value × Nat)=>cs.setIfInBounds (off+x.2) x.1) cells=(cells.toList.take (off+k)++vs++cells.toList.drop (off+k+vs.length)).toArray
  | [],k,off,cells,_=>by simp
  | v::vs,k,off,cells,h=>by
    simp only [List.zipIdx_cons,List.foldl_cons]
    simp only [List.length_cons] at h
    rw [fold_cells vs (k+1) off _ (by simp; omega)]
    apply Array.ext'
    simp only [List.length_cons,Array.toList_setIfInBounds]
    have h1:off+k < cells.toList.length:=by simp; omega
    rw [List.take_set,List.drop_set_of_lt (by omega)]
    rw [show off+(k+1)=off+k+1 by omega,List.take_succ_eq_append_getElem h1,List.set_append_right _ _ (by simp; omega)]
    simp [show min (off+k) cells.size=off+k by simp at h1; omega]
    congr 1
    omega
theorem fill_one {place:Nat→Option (Nat × Nat)} {cells:List Value} {i off size:Nat} {v:Value} {rest:List (Nat × Value)} {ds:List Value} (hp:place i=some (off,size)) (hv:v.cells=ds.toArray) (hd:ds.length=size) (hle:off+size≤cells.length) :
    Instr.fill place cells.toArray ((i,v)::rest)=Instr.fill place (cells.take off++ds++cells.drop (off+size)).toArray rest:=by
  have hf:v.cells.zipIdx.foldl (fun cs (x:Value × Nat)=>cs.setIfInBounds (off+x.2) x.1) cells.toArray=(cells.take off++ds++cells.drop (off+size)).toArray:=by
    have:=fold_cells ds 0 off cells.toArray (by simp; omega)
    rw [hv]
    simp only [Nat.add_zero,hd] at this
    rw [← this,← Array.foldl_toList]
    simp
  have hsz:v.cells.size=size:=by rw [hv]; simpa using hd
  show (match place i with
    | none=>none
    | some (off,size)=>if v.cells.size≠size || off+v.cells.size > cells.toArray.size then none else Instr.fill place (v.cells.zipIdx.foldl (fun cs (x:Value × Nat)=>cs.setIfInBounds (off+x.2) x.1) cells.toArray) rest)=_
  rw [hp]
  simp only [hsz]
  rw [if_neg (by simp; omega),hf]
theorem fill_struct (h:Rel c gh s a w) {Fs:List Ty} {place:Nat→Option (Nat × Nat)} (hp:∀ i F,Fs[i]?=some F→place i=some (Ty.sizeL (Fs.take i),F.size)) :
    ∀ (ps:List (Nat × Operand)) (cells:List Value) (l l':List AV),RepL gh.S Fs cells l→partsE s ps Fs l=some l' →
      ∃ cells',Instr.fill place cells.toArray (ps.map fun (i,x)=>(i,a.eval x))=some cells'.toArray∧RepL gh.S Fs cells' l'
  | [],cells,l,l',r,e=>by
    simp [partsE] at e
    subst e
    exact ⟨cells,rfl,r⟩
  | (i,x)::ps,cells,l,l',r,e=>by
    simp only [partsE] at e
    split at e
    · rename_i F hF
      obtain ⟨u,hu,e⟩:=bind_some e
      obtain ⟨ds,hx,ru⟩:=h.opv hu
      obtain ⟨y,hy,ry,hle⟩:=RepL.at Fs cells l i F r hF
      have hds:=Rep.len _ _ _ ru
      obtain ⟨cells',h1,h2⟩:=fill_struct h hp ps _ _ l' (RepL.set Fs cells l i F ds u r hF ru) e
      refine ⟨cells',?_,h2⟩
      rw [List.map_cons,fill_one (hp i F hF) (by simp only [hx]; exact val_cells hds (Rep.one _ _ _ ru)) hds hle]
      exact h1
    · cases e
theorem fill_arr (h:Rel c gh s a w) {E:Ty} {n:Nat} {place:Nat→Option (Nat × Nat)} (hp:∀ i,place i=some (i*E.size,E.size)) :
    ∀ (ps:List (Nat × Operand)) (cells:List Value) (l l':List AV),Rep gh.S (.arr n E) cells (.agg l)→elemsE s E ps l=some l' →
      ∃ cells',Instr.fill place cells.toArray (ps.map fun (i,x)=>(i,a.eval x))=some cells'.toArray∧Rep gh.S (.arr n E) cells' (.agg l')
  | [],cells,l,l',r,e=>by
    simp [elemsE] at e
    subst e
    exact ⟨cells,rfl,r⟩
  | (i,x)::ps,cells,l,l',r,e=>by
    simp only [elemsE] at e
    obtain ⟨hlt,e⟩:=cond_some e
    have hlt:i < l.length:=Nat.le_of_ble_eq_true hlt
    obtain ⟨u,hu,e⟩:=bind_some e
    obtain ⟨ds,hx,ru⟩:=h.opv hu
    have hds:=Rep.len _ _ _ ru
    obtain ⟨ln,lc⟩:=arr_len r
    have hset:=setP_rep [i] (.arr n E) E (i*E.size) cells ds (.agg l) u (by simp only [PathOk]; exact ⟨by omega,0,by omega,trivial,rfl⟩) r ru
    simp only [setP,AV.toAgg] at hset
    have hb:(i+1)*E.size≤n*E.size:=Nat.mul_le_mul_right _ (by omega)
    rw [Nat.succ_mul] at hb
    obtain ⟨cells',h1,h2⟩:=fill_arr h hp ps _ _ l' hset e
    refine ⟨cells',?_,h2⟩
    rw [List.map_cons,fill_one (hp i) (by simp only [hx]; exact val_cells hds (Rep.one _ _ _ ru)) hds (by omega)]
    exact h1
theorem map_eval (ps:Array (Nat × Operand)):(ps.map fun (i,x)=>(i,a.eval x)).toList=ps.toList.map fun (i,x)=>(i,a.eval x):=by simp
theorem places_of {P:Program}:∀ (Fs:List Ty) (fs:List Field) (off:Nat),TyOkL P Fs fs off→∃ pl,fs.mapM (fun f=>(P.info? f.type).map fun i=>(f.offset,i.size))=some pl∧∀ i F,Fs[i]?=some F→pl[i]?=some (off+Ty.sizeL (Fs.take i),F.size)
  | [],fs,off,h=>by
    simp only [TyOkL] at h
    subst h
    exact ⟨[],rfl,by simp⟩
  | T::Ts,fs,off,h=>by
    simp only [TyOkL] at h
    obtain ⟨f,r,rfl,h1,_,h2,h3,h4⟩:=h
    obtain ⟨i,hi,hs,_⟩:=h3.base
    obtain ⟨pl,q1,q2⟩:=places_of Ts r _ h4
    refine ⟨(f.offset,i.size)::pl,by simp [hi,q1],fun j F hF=>?_⟩
    cases j with
    | zero=>simp at hF; subst hF; simp [Ty.sizeL,h1,hs]
    | succ j =>
      have:=q2 j F (by simpa using hF)
      simp only [List.getElem?_cons_succ,this,List.take_succ_cons,Ty.sizeL]
      congr 2
      omega
theorem repCells_one (v:Value):∀ n,repCells [v] n=List.replicate n v
  | 0=>rfl
  | n+1=>by rw [repCells,repCells_one v n]; rfl
theorem build_tells (hP:EnvOk P G) (h:Rel c gh s a w) {t:TypeId} {T:Ty} {ps:Array (Nat × Operand)} {x:AV} (ht:G.tyOf t=some T) (hf:T.noFn=true)
    (hk:(∃ fs l,T=.struct fs∧partsE s ps.toList fs (Ty.zeroL fs)=some l∧x=.agg l)∨(∃ n e l,T=.arr n e∧elemsE s e ps.toList (List.replicate n e.zero)=some l∧x=.agg l)∨(∃ n l,T=.blob n∧elemsE s (.int .u8) ps.toList (List.replicate n (.int 0))=some l∧x=.blob (bytesOf l))) :
    Tells P gh s w (Instr.build t (ps.map fun (i,x)=>(i,a.eval x))) ⟨.val T none x,[],[],[],[]⟩:=by
  have hT:=hP.ty _ _ ht
  obtain ⟨it,hit,_,hz⟩:=hT.base
  have hzr:=zero_rep gh.S T hf
  rcases hk with ⟨Fs,l,rfl,hp,rfl⟩ | ⟨n,E,l,rfl,hp,rfl⟩ | ⟨n,l,rfl,hp,rfl⟩
  · obtain ⟨_,_,fs,h1,h2⟩:=hT
    obtain ⟨pl,q1,q2⟩:=places_of Fs fs.toList 0 h2
    have hzr':RepL gh.S Fs (Ty.zeroCellsL Fs) (Ty.zeroL Fs):=by
      simp only [Rep,Ty.zero,Ty.zeroCells,AV.agg.injEq] at hzr
      obtain ⟨_,rfl,r⟩:=hzr
      exact r
    obtain ⟨cells',k1,k2⟩:=fill_struct h (place:=(pl.toArray[·]?)) (fun i F hF=>by simpa using q2 i F hF) ps.toList _ _ l hzr' hp
    refine .mk (v:=.agg cells'.toArray) ?_ (.plain ⟨cells',rfl,by simp only [Rep]; exact ⟨l,rfl,k2⟩⟩)
    refine run_build w t _ _ ?_
    simp only [Program.built,hit,h1,hz,q1,map_eval]
    exact k1
  · obtain ⟨_,e,h1,hE⟩:=hT
    obtain ⟨ie,hie,hs,_⟩:=hE.base
    have hzr':Rep gh.S (.arr n E) (repCells E.zeroCells n) (.agg (List.replicate n E.zero)):=by
      simpa only [Ty.zero,Ty.zeroCells] using hzr
    obtain ⟨cells',k1,k2⟩:=fill_arr h (place:=fun i=>some (i*ie.size,ie.size)) (fun i=>by rw [hs]) ps.toList _ _ l hzr' hp
    refine .mk (v:=.agg cells'.toArray) ?_ (.plain ⟨cells',rfl,k2⟩)
    refine run_build w t _ _ ?_
    simp only [Program.built,hit,h1,hz,hie,map_eval]
    exact k1
  · obtain ⟨_,e,h1,_,hbe⟩:=hT
    obtain ⟨ie,hie,hs,_⟩:=hbe
    have hzr':Rep gh.S (.arr n (.int .u8)) (repCells [.int .u8 0] n) (.agg (List.replicate n (.int 0))):=zero_rep gh.S (.arr n (.int .u8)) rfl
    rw [repCells_one] at hzr'
    obtain ⟨cells',k1,k2⟩:=fill_arr h (place:=fun i=>some (i*ie.size,ie.size)) (fun i=>by rw [hs]) ps.toList _ _ l hzr' hp
    refine .mk (v:=.agg cells'.toArray) ?_ (.plain ⟨cells',rfl,elems_back (t:=.blob n) rfl k2⟩)
    refine run_build w t _ _ ?_
    simp only [Program.built,hit,h1,hz,hie,map_eval]
    exact k1
theorem range_zero (E:Ty) (n:Nat) (hpos:0 < E.size):((Array.range (n*E.size)).map (fun k=>(E.zeroCells.toArray)[k % E.zeroCells.toArray.size]!))=(repCells E.zeroCells n).toArray:=by
  have hl:=zeroCells_len E
  apply Array.ext
  · simp [repCells_length,hl]
  · intro k h1 h2
    simp [repCells_length,hl] at h2
    simp only [Array.getElem_map,Array.getElem_range,List.size_toArray,hl]
    have hm:k % E.size < E.zeroCells.length:=by rw [hl]; exact Nat.mod_lt _ hpos
    have hi:k / E.size < n:=(Nat.div_lt_iff_lt_mul hpos).2 h2
    have hp:=repCells_part E.zeroCells n (k / E.size) hi
    have hg:=congrArg (fun l=>l[k % E.size]?) hp
    simp only [List.getElem?_take,List.getElem?_drop,hl,if_pos (Nat.mod_lt _ hpos),Nat.mul_comm (k / E.size),Nat.div_add_mod] at hg
    rw [getElem!_pos _ _ (by simpa using hm)]
    simp only [List.getElem_toArray]
    have h3:k < (repCells E.zeroCells n).length:=by rw [repCells_length,hl]; exact h2
    rw [List.getElem?_eq_getElem h3,List.getElem?_eq_getElem hm] at hg
    simpa using hg.symm
theorem run_newRow (e:TypeId) (cells:Array Value):(newRow e cells).run P w=.ok ⟨w.heap.size,0,none⟩ (w.alloc (.cells cells e)):=rfl
theorem buildSlice_does (hP:EnvOk P G) (h:Rel c gh s a w) {t:TypeId} {E:Ty} {n:Nat} {d:Option Nat} (hd:dstOk s d=true) {ps:Array (Nat × Operand)} {l:List AV} {f:Eff} (ht:G.tyOf t=some (.slice E)) (hf:E.noFn=true)
    (hp:elemsE s E ps.toList (List.replicate n E.zero)=some l) (hn:n*E.size≤16777216) (hk:tellOwn s d (.slice E) (.slice l) some=some f) :
    Does P c s a w (Instr.buildSlice t n (ps.map fun (i,x)=>(i,a.eval x))) f:=by
  cases d with
  | none=>cases hk
  | some d =>
    simp only [tellOwn,Option.some.injEq] at hk
    subst hk
    obtain ⟨_,hpos,e,h1,hE⟩:=hP.ty _ _ ht
    have hzr:Rep gh.S (.arr n E) (repCells E.zeroCells n) (.agg (List.replicate n E.zero)):=zero_rep gh.S (.arr n E) hf
    obtain ⟨cells',k1,k2⟩:=fill_arr h (place:=fun i=>some (i*E.size,E.size)) (fun i=>rfl) ps.toList _ _ l hzr hp
    have hcl:=(arr_len k2).2
    have hn63:n≤maxLen:=by
      have:n*1≤n*E.size:=Nat.mul_le_mul_left _ hpos
      simp only [maxLen]; omega
    obtain ⟨gh',r1,r2⟩:=h.newSlice w ⟨rfl,rfl,rfl,rfl⟩ cells' [] e k2 (by simpa using hcl) (Nat.le_refl n) hn63 d (h.dst_own hd) (s.own d+1) (by omega)
    rw [List.append_nil] at r1
    refine ⟨gh',_,_,?_,r1,r2⟩
    have hzc:(E.val E.zeroCells).cells=E.zeroCells.toArray:=by
      have hz:=zero_rep gh.S E hf
      exact val_cells (Rep.len _ _ _ hz) (Rep.one _ _ _ hz)
    have hfill:Instr.fill (fun i=>some (i*E.size,E.size)) ((Array.range (n*E.size)).map (fun k=>(E.zeroCells.toArray)[k % E.zeroCells.toArray.size]!)) (ps.map fun (i,x)=>(i,a.eval x)).toList=some cells'.toArray:=by
      rw [range_zero E n hpos,map_eval]
      exact k1
    unfold Instr.buildSlice
    simp only [run_underlying h1,Sem.run_bind,Result.andThen_ok,hE.size]
    rw [if_neg (by omega)]
    by_cases h0:n*E.size=0
    · have hm0:(Array.range (n*E.size)).map (fun k=>(#[]:Array Value)[k % (#[]:Array Value).size]!)=(Array.range (n*E.size)).map (fun k=>(E.zeroCells.toArray)[k % E.zeroCells.toArray.size]!):=by rw [h0]; simp
      rw [if_pos h0]
      simp only [Sem.run_bind,Sem.run_pure,Result.andThen_ok,hm0,hfill,run_newRow]
    · rw [if_neg h0]
      simp only [Sem.run_bind,Sem.run_pure,Result.andThen_ok,hE.zero,hzc,hfill,run_newRow]
theorem madeCells_zero {E:Ty} {S:Snap} (hf:E.noFn=true) (hpos:0 < E.size) (n:Nat):madeCells (E.val E.zeroCells).cells (n*E.size)=(repCells E.zeroCells n).toArray:=by
  have hz:=zero_rep S E hf
  rw [val_cells (Rep.len _ _ _ hz) (Rep.one _ _ _ hz)]
  rw [← range_zero E n hpos]
  rfl
theorem makeK_does (hP:EnvOk P G) (h:Rel c gh s a w) {t:TypeId} {T:Ty} {b_:Nat} {d:Option Nat} {x y:Operand} {f:Eff} (ht:G.tyOf t=some T) (hby:assoc G.bytes t=some b_) (hf:T.noFn=true) (hd:dstOk s d=true)
    (hk:makeK s d T b_ x y some=some f):Does P c s a w (Instr.makeSlice t (a.eval x) (a.eval y)) f:=by
  unfold makeK at hk
  split at hk
  · rename_i E d
    obtain ⟨u,hu,hk1⟩:=bind_some hk
    obtain ⟨v,hv,hk2⟩:=bind_some hk1
    obtain ⟨n,hx,rfl,wf⟩:=(h.opv hu).int
    obtain ⟨m,hy,rfl,wf'⟩:=(h.opv hv).int
    clear hk hk1
    simp only [AV.toInt] at hk2
    obtain ⟨hc,hk3⟩:=cond_some hk2
    clear hk2
    simp only [Bool.and_eq_true] at hc
    obtain ⟨⟨hmn,h0⟩,hle⟩:=hc
    have hmn:=(of_decide_eq_true hmn).symm
    have h0:=of_decide_eq_true h0
    subst hmn
    have hle:=Nat.le_of_ble_eq_true hle
    simp only [Option.some.injEq] at hk3
    subst hk3
    obtain ⟨_,hpos,e,h1,hE⟩:=hP.ty _ _ ht
    obtain ⟨i,hi,hsz,hz⟩:=hE.base
    obtain ⟨e',i',h1',hi',hby',hbpos⟩:=hP.bytes _ _ hby
    rw [h1] at h1'
    simp only [Option.some.injEq,TypeDesc.slice.injEq] at h1'
    subst h1'
    rw [hi] at hi'
    simp only [Option.some.injEq] at hi'
    subst hi'
    have hb:=wf_bounds wf
    simp only [IntKind.min,IntKind.max,IntKind.signed,IntKind.bits,if_true] at hb
    have hmul:(i.bytes:Int)*n≤281474976710656:=by
      have:((n.toNat*b_:Nat):Int)≤140737488355328:=by omega
      rw [Int.natCast_mul,Int.toNat_of_nonneg h0,← hby'] at this
      rw [Int.mul_comm]
      omega
    have hrun:=run_make (P:=P) w t e i _ h1 hi hz .i64 .i64 n n h0 (Int.le_refl _) hmul (by omega)
    simp only [Ty.noFn] at hf
    rw [hsz,madeCells_zero (S:=gh.S) hf hpos] at hrun
    have hzr:Rep gh.S (.arr n.toNat E) (repCells E.zeroCells n.toNat) (.agg (List.replicate n.toNat E.zero)):=zero_rep gh.S (.arr n.toNat E) hf
    have hrow:Row (w.alloc (.cells (repCells E.zeroCells n.toNat).toArray e)) w.heap.size (repCells E.zeroCells n.toNat):=⟨e,alloc_new w _⟩
    have hg:Rel c gh s a (w.alloc (.cells (repCells E.zeroCells n.toNat).toArray e)):=by
      refine h.grow (S':=gh.S) ⟨⟨rfl,rfl,rfl,by simp,fun k hk _=>alloc_old w _ hk⟩,Snap.le_refl _,fun p v hp=>.inl hp,fun p v hp=>?_⟩
      have hlt:=World.block_lt_of_cell? w p (h.agree p v hp)
      rw [World.cell?_of_block (w:=w) (alloc_old w _ hlt)]
      exact h.agree p v hp
    have hn:=hg.newOb d ((s.slot d).gen+1) (h.dst_obj hd) (Nat.lt_succ_self _) w.heap.size ⟨.arr n.toNat E,.agg (List.replicate n.toNat E.zero)⟩
      ⟨_,hrow,.inl h.size,hzr,h.off_new (Nat.le_refl _)⟩ (h.fresh_m (Nat.le_refl _)) (h.fresh_τ (Nat.le_refl _))
    refine ⟨_,_,_,by rw [hx,hy]; exact hrun,hn,?_⟩
    simp only [EntRel,RefRel]
    show _≤(St.slot ⟨s.tmps,s.objs.set d _,s.owns⟩ d).gen∧(_=(St.slot ⟨s.tmps,s.objs.set d _,s.owns⟩ d).gen→∀ ob,(St.slot ⟨s.tmps,s.objs.set d _,s.owns⟩ d).ob=some ob→_)
    rw [slot_set (h.dst_obj hd),if_pos rfl]
    refine ⟨Nat.le_refl _,fun _ ob hob=>?_⟩
    simp only [Option.some.injEq] at hob
    subst hob
    refine ⟨0,E,⟨w.heap.size,0,none⟩,n.toNat,⟨rfl,rfl⟩,rfl,Nat.zero_le _,Nat.le_refl _,by simp,by simp,by simp only [maxLen]; omega,fun _=>?_⟩
    rw [upd_same]
    simp
  · cases hk
theorem makeValK_does (hP:EnvOk P G) (h:Rel c gh s a w) {t:TypeId} {T:Ty} {b_:Nat} {d:Option Nat} {x y:Operand} {f:Eff} (ht:G.tyOf t=some T) (hby:assoc G.bytes t=some b_) (hf:T.noFn=true) (hd:dstOk s d=true)
    (hk:makeValK s d T b_ x y some=some f):Does P c s a w (Instr.makeSlice t (a.eval x) (a.eval y)) f:=by
  unfold makeValK at hk
  split at hk
  · rename_i E
    obtain ⟨u,hu,hk1⟩:=bind_some hk
    obtain ⟨v,hv,hk2⟩:=bind_some hk1
    obtain ⟨n,hx,rfl,wf⟩:=(h.opv hu).int
    obtain ⟨m,hy,rfl,wf'⟩:=(h.opv hv).int
    clear hk hk1
    simp only [AV.toInt] at hk2
    obtain ⟨hc,hk3⟩:=cond_some hk2
    clear hk2
    simp only [Bool.and_eq_true] at hc
    obtain ⟨⟨hmn,h0⟩,hle⟩:=hc
    have hmn:=(of_decide_eq_true hmn).symm
    have h0:=of_decide_eq_true h0
    subst hmn
    have hle:=Nat.le_of_ble_eq_true hle
    cases d with
    | none=>cases hk3
    | some d =>
    simp only [tellOwn,Option.some.injEq] at hk3
    subst hk3
    obtain ⟨_,hpos,e,h1,hE⟩:=hP.ty _ _ ht
    obtain ⟨i,hi,hsz,hz⟩:=hE.base
    obtain ⟨e',i',h1',hi',hby',hbpos⟩:=hP.bytes _ _ hby
    rw [h1] at h1'
    simp only [Option.some.injEq,TypeDesc.slice.injEq] at h1'
    subst h1'
    rw [hi] at hi'
    simp only [Option.some.injEq] at hi'
    subst hi'
    have hb:=wf_bounds wf
    simp only [IntKind.min,IntKind.max,IntKind.signed,IntKind.bits,if_true] at hb
    have hmul:(i.bytes:Int)*n≤281474976710656:=by
      have:((n.toNat*b_:Nat):Int)≤140737488355328:=by omega
      rw [Int.natCast_mul,Int.toNat_of_nonneg h0,← hby'] at this
      rw [Int.mul_comm]
      omega
    have hrun:=run_make (P:=P) w t e i _ h1 hi hz .i64 .i64 n n h0 (Int.le_refl _) hmul (by omega)
    simp only [Ty.noFn] at hf
    rw [hsz,madeCells_zero (S:=gh.S) hf hpos] at hrun
    have hzr:Rep gh.S (.arr n.toNat E) (repCells E.zeroCells n.toNat) (.agg (List.replicate n.toNat E.zero)):=zero_rep gh.S (.arr n.toNat E) hf
    obtain ⟨gh',r1,r2⟩:=h.newSlice w ⟨rfl,rfl,rfl,rfl⟩ (repCells E.zeroCells n.toNat) [] e hzr (by simpa using (arr_len hzr).2) (Nat.le_refl n.toNat) (by simp only [maxLen]; omega) d (h.dst_own hd) (s.own d+1) (by omega)
    rw [List.append_nil] at r1
    exact ⟨gh',_,_,by rw [hx,hy]; exact hrun,r1,r2⟩
  · cases hk
theorem firstCells_str (l:List UInt8) (size n:Nat):(Builtin.firstCells size n (.string ⟨l.toArray⟩)).run P w=.ok ((l.take n).map byteV).toArray w:=by
  simp only [Builtin.firstCells,Sem.run_pure,bytes_extract]
  congr 1
  simp [List.drop_zero]
  rfl
theorem copyK_does (hP:EnvOk P G) (h:Rel c gh s a w) {t t' rt:TypeId} {T S:Ty} {x y:Operand} {f:Eff} (ht:G.tyOf t=some T) (ht':G.tyOf t'=some S)
    (hk:copyK s T S x y some=some f):Does P c s a w (Builtin.copy_ #[t,t'] rt #[a.eval x,a.eval y]) f:=by
  unfold copyK at hk
  split at hk
  · rename_i p lo hi hp
    have hv:=h.ope x
    rw [hp] at hv
    split at hk
    · rename_i E e' hel
      obtain ⟨hb,hk1⟩:=cond_some hk
      have:=(Ty.beq_eq _ _ hb).symm
      subst this
      clear hk
      obtain ⟨⟨bs,ro⟩,hsrc,hk2⟩:=bind_some hk1
      clear hk1
      obtain ⟨av,hav,hk4⟩:=bind_some hk2
      clear hk2
      obtain ⟨z,hz,hk5⟩:=bind_some hk4
      clear hk4
      simp only [Option.some.injEq] at hk5
      obtain ⟨_,hpos,e,h1,hE⟩:=hP.ty _ _ ht
      unfold St.getPt at hav
      obtain ⟨ob,hob,rfl⟩:=Option.map_eq_some_iff.1 hav
      unfold St.setPt at hz
      rw [hob] at hz
      simp only [Option.map_some,Option.some.injEq] at hz
      obtain ⟨hgen,hob⟩:=obAt_some hob
      obtain ⟨off,e2,ad,cap,k1,k2,k3,k4,k5,k6,k7,k8⟩:=hv.2 hgen ob hob
      rw [hel] at k2
      simp only [Option.some.injEq] at k2
      subst k2
      obtain ⟨cs0,⟨tid,g1⟩,g2,g3,g4⟩:=h.objs p.id ob hob
      have hcl:=Rep.len _ _ _ g3
      have src:∃ news len,(Builtin.lenOf (a.eval y)).run P w=.ok len w∧len=bs.length∧bs.length≤maxLen∧Rep gh.S (.arr bs.length E) news (.agg bs) ∧
          (Builtin.firstCells E.size (min bs.length (hi-lo)) (a.eval y)).run P w=.ok (news.take (min bs.length (hi-lo)*E.size)).toArray w:=by
        unfold copySrc at hsrc
        split at hsrc
        · obtain ⟨hE8,hsrc⟩:=cond_some hsrc
          have hE8:=Ty.beq_eq _ _ hE8
          subst hE8
          obtain ⟨u,hu,hs⟩:=Option.map_eq_some_iff.1 hsrc
          simp only [Prod.mk.injEq] at hs
          obtain ⟨rfl,rfl⟩:=hs
          obtain ⟨l,hy,rfl,hl⟩:=(h.opv hu).str
          refine ⟨l.map byteV,l.length,by rw [hy]; simp [Builtin.lenOf,ByteArray.size],by simp [ofBytes,AV.toStr],by simpa [ofBytes,AV.toStr] using hl,?_,?_⟩
          · have:=elems_rep (S:=gh.S) (t:=.blob l.length) rfl (cs:=l.map byteV) (x:=.blob l) ⟨l,rfl,rfl,rfl⟩
            simpa [elemsOf,Ty.count,AV.toBlob,AV.toStr,ofBytes] using this
          · rw [hy,firstCells_str]
            simp [Ty.size,ofBytes,AV.toStr]
        · obtain ⟨hF,hsrc2⟩:=cond_some hsrc
          have hF:=(Ty.beq_eq _ _ hF).symm
          subst hF
          obtain ⟨ao,cap',news,hy,hml,hnr,hnews,hnil⟩:=h.src hsrc2
          refine ⟨news,bs.length,by rw [hy]; simp [Builtin.lenOf],rfl,hml,hnr,?_⟩
          rw [hy]
          cases ao with
          | none =>
            obtain ⟨rfl,rfl⟩:=hnil rfl
            simp [Builtin.firstCells]
          | some q =>
            have hnl:=(arr_len hnr).2
            have hmin:min bs.length (hi-lo)*E.size≤news.length:=by
              rw [hnl]; exact Nat.mul_le_mul_right _ (Nat.min_le_left _ _)
            refine run_firstCells_some (P:=P) w E.size _ q bs.length cap' _ (by simp; omega) (fun j u hj=>?_)
            rw [List.getElem?_take] at hj
            split at hj
            · exact hnews q rfl j u hj
            · cases hj
        · cases hsrc
      obtain ⟨news,len,s1,rfl,s2,s3,s4⟩:=src
      have hnl:=(arr_len s3).2
      have hone:=Rep.one _ _ _ s3
      generalize hm:min bs.length (hi-lo)=m at *
      have hmb:m≤bs.length∧m≤hi-lo:=by omega
      have hmE:m*E.size≤bs.length*E.size:=Nat.mul_le_mul_right _ hmb.1
      have hle:=PathOk.le _ _ _ _ k1
      have hpt:p.t.size=p.t.count*E.size:=by
        cases hpt:p.t <;> simp [hpt,Ty.elem] at hel <;> simp [Ty.size,Ty.count,← hel]
      have hfit:(lo+m)*E.size≤p.t.count*E.size:=Nat.mul_le_mul_right _ (by omega)
      rw [Nat.add_mul] at hfit
      have hstore:(storeCells ad (news.take (m*E.size))).run P w=.ok () (w.setRow (gh.m p.id) (cs0.take (off+lo*E.size)++news.take (m*E.size)++cs0.drop (off+lo*E.size+m*E.size)).toArray):=by
        by_cases hm0:m=0
        · subst hm0
          simp only [Nat.zero_mul,List.take_zero,List.append_nil,Nat.add_zero,List.take_append_drop]
          rw [setRow_self w _ _ _ _ g1]
          rfl
        · rw [k8 (by omega)]
          have:=run_storeCells_at P (gh.m p.id) (off+lo*E.size) tid (news.take (m*E.size)) 0 cs0.toArray w g1 (by simp; omega) (fun u hu=>list_one hone u (List.mem_of_mem_take hu))
          simp only [Nat.add_zero] at this
          rw [this]
          simp [hnl,Nat.min_eq_left hmE]
      have r1:=getP_rep p.path ob.t p.t off cs0 ob.x k1 g3
      have r2:=elems_rep hel r1.1
      have htake:Rep gh.S (.arr m E) (news.take (m*E.size)) (.agg (bs.take m)):=by
        have:=arr_sub (lo:=0) (hi:=m) s3 (Nat.zero_le _) hmb.1
        simpa using this
      have hspl:Rep gh.S (.arr p.t.count E) (((cs0.drop off).take p.t.size).take (lo*E.size)++news.take (m*E.size)++((cs0.drop off).take p.t.size).drop (lo*E.size+m*E.size)) (.agg (splice (elemsOf p.t (getP ob.t ob.x p.path)) lo (bs.take m))):=by
        obtain ⟨en,ec⟩:=arr_len r2
        have a1:=arr_sub (lo:=0) (hi:=lo) r2 (Nat.zero_le _) (by omega)
        have a3:=arr_sub (lo:=lo+m) (hi:=p.t.count) r2 (by omega) (Nat.le_refl _)
        simp only [Nat.sub_zero,Nat.zero_mul,List.drop_zero] at a1
        have a4:=arr_append (arr_append a1 htake) a3
        have hcnt:lo+m+(p.t.count-(lo+m))=p.t.count:=by omega
        rw [hcnt] at a4
        have e1:List.take ((p.t.count-(lo+m))*E.size) (List.drop ((lo+m)*E.size) ((cs0.drop off).take p.t.size))=((cs0.drop off).take p.t.size).drop (lo*E.size+m*E.size):=by
          rw [← Nat.add_mul,List.take_of_length_le]
          rw [List.length_drop,ec,← Nat.sub_mul]
          exact Nat.le_refl _
        have e2:List.drop (lo+m) (List.take p.t.count (elemsOf p.t (getP ob.t ob.x p.path)))=(elemsOf p.t (getP ob.t ob.x p.path)).drop (lo+(bs.take m).length):=by
          rw [List.take_of_length_le (by omega)]
          simp [Nat.min_eq_left hmb.1]
        rw [e1,e2] at a4
        simpa [splice,List.append_assoc] using a4
      have r3:=elems_back hel hspl
      have r4:=setP_rep p.path ob.t p.t off cs0 _ ob.x _ k1 g3 r3
      have hcells:cs0.take off++(((cs0.drop off).take p.t.size).take (lo*E.size)++news.take (m*E.size)++((cs0.drop off).take p.t.size).drop (lo*E.size+m*E.size))++cs0.drop (off+p.t.size) =
          cs0.take (off+lo*E.size)++news.take (m*E.size)++cs0.drop (off+lo*E.size+m*E.size):=by
        have hl:(news.take (m*E.size)).length=m*E.size:=by rw [List.length_take,hnl]; exact Nat.min_eq_left hmE
        have:=splice_two cs0 (news.take (m*E.size)) off (lo*E.size) p.t.size (by omega)
        rw [hl] at this
        exact this
      rw [hcells] at r4
      have hturn:=h.turn p.id (by
        rcases Nat.lt_or_ge p.id s.objs.length with hh | hh
        · exact hh
        · simp [St.slot,List.getD,List.getElem?_eq_none hh] at hob) ob hob (setRow_turned w _ _) _ ⟨tid,setRow_heap w _ _ _ _ _ g1⟩ _ r4
      have htk:bs.take (hi-lo)=bs.take m:=by
        rcases Nat.le_total bs.length (hi-lo) with hh | hh
        · rw [List.take_of_length_le hh,List.take_of_length_le (by omega)]
        · rw [show m=hi-lo by omega]
      subst hk5
      subst hz
      refine ⟨gh,.int .i64 (m:Int),w.setRow (gh.m p.id) (cs0.take (off+lo*E.size)++news.take (m*E.size)++cs0.drop (off+lo*E.size+m*E.size)).toArray,?_,?_,?_⟩
      · rw [k5]
        have hmin:Nat.min bs.length (hi-lo)=m:=hm
        have hsE:(sizeOf e).run P w=.ok E.size w:=hE.size
        simp [Builtin.copy_,run_underlying h1,s1,hsE,hmin,s4,hstore,goInt]
      · have hmid:s.mid ⟨.val (.int .i64) none (.int (m:Int)),[(p.id,⟨p.gen,some ⟨ob.t,setP ob.t ob.x p.path (ofElems p.t (splice (elemsOf p.t (getP ob.t ob.x p.path)) lo (bs.take (hi-lo))))⟩⟩)],[],p.id::ro,[]⟩ =
            ⟨s.tmps,s.objs.set p.id ⟨(s.slot p.id).gen,some ⟨ob.t,setP ob.t ob.x p.path (ofElems p.t (splice (elemsOf p.t (getP ob.t ob.x p.path)) lo (bs.take m)))⟩⟩,s.owns⟩:=by
          rw [← hgen,htk]; rfl
        rw [hmid]
        exact hturn
      · refine .plain (.int_mk ?_)
        simp only [maxLen] at s2
        simp only [Lit.wf,IntKind.min,IntKind.max,IntKind.signed,IntKind.bits,Bool.and_eq_true,decide_eq_true_eq,if_true]
        omega
    · cases hk
  · cases hk
end Go.Proofs.YtlkkebfjmbfgpaaGreatDoor.Ev
namespace Go.Proofs.YtlkkebfjmbfgpaaGreatDoor.Ev
open Go Go.RowKit
variable {c:Ctx} {gh:Ghost} {s:St} {a:Act} {w:World} {P:Program} {G:Env}
def Var (S:Snap) (w:World) (t:Ty) (b:Nat) (x:AV):Prop:=∃ cs,Row w b cs∧Rep S t cs x∧S.off b 0
def ArgsRel (S:Snap) (w:World):List PTy→List Value→List AV→List Nat→Prop
  | [],vs,xs,bs=>vs=[]∧xs=[]∧bs=[]
  | .val t::ts,vs,xs,bs=>∃ v vs' x xs',vs=v::vs'∧xs=x::xs'∧VRep S t v x∧ArgsRel S w ts vs' xs' bs
  | .ptr t::ts,vs,xs,bs=>∃ v vs' x xs' b bs',vs=v::vs'∧xs=x::xs'∧bs=b::bs'∧v=.pointer (some ⟨b,0,none⟩)∧Var S w t b x∧ArgsRel S w ts vs' xs' bs'
def ptrTys:List PTy→List Ty
  | []=>[]
  | .val _::ts=>ptrTys ts
  | .ptr t::ts=>t::ptrTys ts
def OutsRel (S:Snap) (w:World):List Ty→List AV→List Nat→Prop
  | [],ys,bs=>ys=[]∧bs=[]
  | t::ts,ys,bs=>∃ y ys' b bs',ys=y::ys'∧bs=b::bs'∧Var S w t b y∧OutsRel S w ts ys' bs'
def TupRel (S:Snap):List PTy→List Value→List AV→Prop
  | [],vs,xs=>vs=[]∧xs=[]
  | .val t::ts,vs,xs=>∃ v vs' x xs',vs=v::vs'∧xs=x::xs'∧VRep S t v x∧TupRel S ts vs' xs'
  | .ptr _::_,_,_=>False
def ResRel (S:Snap) (w:World) (B:Nat) (ts:List PTy) (r:Res) (v:Value):Prop :=
  match ts with
  | [.val t]=>∃ x,r.vals=[x]∧VRep S t v x∧(r.fresh=true→∃ e,t=.slice e∧OwnRow B S w v e.size)
  | [.ptr t]=>∃ x b,r.vals=[x]∧v=.pointer (some ⟨b,0,none⟩)∧B≤b∧Var S w t b x
  | ts=>∃ vs,v=.tuple vs.toArray∧TupRel S ts vs r.vals
def Sat (P:Program) (i:FnInfo) (f:FuncId) (xs:List AV) (r:Res):Prop :=
  ∀ (S0:Snap) (w0:World) (vs:List Value) (bs:List Nat),(∀ p v,S0 p=some v→w0.cell? p=some v)→ArgsRel S0 w0 i.params vs xs bs→bs.Nodup →
    Calls P f vs.toArray w0 fun e w=>∃ S v,e=.returned v∧S0.le S∧(∀ p u,S p=some u→S0 p=some u∨w0.heap.size≤p.block)∧(∀ p u,S p=some u→w.cell? p=some u) ∧
      Keep w0.heap.size bs w0 w∧ResRel S w w0.heap.size i.results r v∧OutsRel S w (ptrTys i.params) r.outs bs
theorem Rel.outs (h:Rel c gh s a w) {S':Snap} {w':World} {bs:List Nat} (hk:Keep w.heap.size bs w w') (hbs:∀ b,b∈bs→c.B≤b∨b∈c.ex) (hown:∀ g b,(gh.τ g).ownBlock=some b→b ∉ bs)
    (le:gh.S.le S') (new:∀ p v,S' p=some v→gh.S p=some v∨w.heap.size≤p.block) (agree:∀ p v,S' p=some v→w'.cell? p=some v)
    (objs:List OSlot) (hl:objs.length=s.objs.length)
    (hs:∀ id,(St.slot ⟨s.tmps,objs,s.owns⟩ id).gen=(s.slot id).gen∧∀ o',(St.slot ⟨s.tmps,objs,s.owns⟩ id).ob=some o'→∃ o,(s.slot id).ob=some o∧o.t=o'.t ∧
      ((o'=o∧gh.m id ∉ bs)∨Var S' w' o'.t (gh.m id) o'.x)) :
    Rel c { gh with S:=S' } ⟨s.tmps,objs,s.owns⟩ a w' where
  keep:=h.keep.trans (hk.mono h.size (fun k hk' hlt=>(hbs k hk').resolve_left (by omega)))
  size:=Nat.le_trans h.size hk.size
  le:=Snap.le_trans h.le le
  new:=fun p v hp=>(new p v hp).elim (h.new p v) (fun e=>.inr (Nat.le_trans h.size e))
  agree:=agree
  ntm:=h.ntm
  nob:=by rw [← h.nob]; exact hl
  now:=h.now
  defers:=h.defers
  tmps:=fun t=>by
    have r:=(h.tmps t).mono le
    show EntRel _ _ (s.look t) _
    have key:∀ (p:Pt) (v:Value),PtRel { gh with S:=S' } s p v→PtRel { gh with S:=S' } ⟨s.tmps,objs,s.owns⟩ p v:=by
      intro p v r
      obtain ⟨h1,h2⟩:=r
      refine ⟨by rw [(hs p.id).1]; exact h1,fun e o' e'=>?_⟩
      obtain ⟨o,ho,ht,_⟩:=(hs p.id).2 o' e'
      rw [← ht]
      exact h2 (by rw [(hs p.id).1] at e; exact e) o ho
    cases he:s.look t <;> rw [he] at r <;> simp only [EntRel] at r ⊢
    case ptr p=>exact key p _ r
    case ref p lo hi =>
      obtain ⟨h1,h2⟩:=r
      refine ⟨by rw [(hs p.id).1]; exact h1,fun e o' e'=>?_⟩
      obtain ⟨o,ho,ht,_⟩:=(hs p.id).2 o' e'
      rw [← ht]
      exact h2 (by rw [(hs p.id).1] at e; exact e) o ho
    case clo f caps =>
      obtain ⟨vs,h1,h2,h3⟩:=r
      exact ⟨vs,h1,h2,fun i p u a b=>key p u (h3 i p u a b)⟩
    all_goals exact r
  objs:=fun id o' ho'=>by
    obtain ⟨o,ho,ht,h1 | h1⟩:=(hs id).2 o' ho'
    · obtain ⟨rfl,hn⟩:=h1
      obtain ⟨cs,k1,k2,k3,k4⟩:=h.objs id o' ho
      refine ⟨cs,k1.of_block (hk.block _ k1.lt hn),k2,Rep.mono le _ _ _ k3,fun p hp hk'=>?_⟩
      cases hsp:S' p with
      | none=>exact hsp
      | some v =>
        rcases new p v hsp with h5 | h5
        · rw [k4 p hp hk'] at h5; cases h5
        · have:=k1.lt; simp only at hp; omega
    · obtain ⟨cs,k1,k2,k3⟩:=h1
      obtain ⟨_,_,k5,_⟩:=h.objs id o ho
      exact ⟨cs,k1,k5,k2,k3⟩
  minj:=fun i j oi oj h1 h2 e=>by
    obtain ⟨o1,ho1,_⟩:=(hs i).2 oi h1
    obtain ⟨o2,ho2,_⟩:=(hs j).2 oj h2
    exact h.minj i j o1 o2 ho1 ho2 e
  owns:=fun g=>by
    rcases h.owns g with h0 | ⟨g',n,cap,cs,e,h1,h2,h3,h4,h5,h6⟩
    · exact .inl h0
    · have hn:g' ∉ bs:=hown g g' (by rw [e]; rfl)
      refine .inr ⟨g',n,cap,cs,e,h1,h2.of_block (hk.block _ h2.lt hn),h3,h4,h5,fun p hp hk'=>?_⟩
      cases hsp:S' p with
      | none=>exact hsp
      | some v =>
        rcases new p v hsp with h7 | h7
        · rw [h6 p hp hk'] at h7; cases h7
        · have:=h2.lt; omega
  odist:=h.odist
  mo:=fun id o' g b h1 h2=>by
    obtain ⟨o,ho,_⟩:=(hs id).2 o' h1
    exact h.mo id o g b ho h2
  fix:=fun k b h1 h2 o' h3=>by
    obtain ⟨o,ho,_⟩:=(hs k).2 o' h3
    rw [(hs k).1] at h2
    exact h.fix k b h1 h2 o ho
theorem isEmpty_nil {l:List Nat} (h:l.isEmpty=true):l=[]:=by cases l <;> simp_all
theorem rep_solo {S:Snap} {t:Ty} {cs:List Value} {x:AV}:Rep S (.struct [t]) cs x ↔ ∃ y,x=.agg [y]∧Rep S t cs y:=by
  simp only [Rep,RepL]
  constructor
  · rintro ⟨xs,rfl,y,ys,rfl,h1,h2,h3,rfl⟩
    have h4:cs.length≤t.size:=by
      have:=congrArg List.length h3
      simp only [List.length_drop,List.length_nil] at this
      omega
    rw [List.take_of_length_le h4] at h2
    exact ⟨y,rfl,h2⟩
  · rintro ⟨y,rfl,h⟩
    have h4:=Rep.len _ _ _ h
    exact ⟨[y],rfl,y,[],rfl,by omega,by rw [List.take_of_length_le (by omega)]; exact h,List.drop_eq_nil_of_le (by omega),rfl⟩
theorem sole_get {S:Snap} {t:Ty}:∀ (path:List Nat) (T:Ty) (off:Nat) (cs:List Value) (x:AV),sole T path=true→PathOk path T t off→Rep S T cs x→off=0∧Rep S t cs (getP T x path)
  | [],T,off,cs,x,_,hp,hr=>by
    obtain ⟨rfl,rfl⟩:=hp
    exact ⟨rfl,hr⟩
  | i::r,T,off,cs,x,hs,hp,hr=>by
    unfold sole at hs
    split at hs
    · cases ‹i::r=[]›
    · rename_i t1 r1 he
      cases he
      obtain ⟨f,o,h1,rfl,h3⟩:=hp
      simp only [List.getElem?_cons_zero,Option.some.injEq] at h1
      subst h1
      obtain ⟨y,rfl,hy⟩:=rep_solo.1 hr
      obtain ⟨rfl,h4⟩:=sole_get r t1 o cs y hs h3 hy
      exact ⟨rfl,h4⟩
    · cases hs
theorem sole_set {S S':Snap} {t:Ty}:∀ (path:List Nat) (T:Ty) (off:Nat) (cs0 cs:List Value) (x y:AV),sole T path=true→PathOk path T t off→Rep S T cs0 x→Rep S' t cs y→Rep S' T cs (setP T x path y)
  | [],T,off,cs0,cs,x,y,_,hp,_,hr=>by
    obtain ⟨rfl,rfl⟩:=hp
    exact hr
  | i::r,T,off,cs0,cs,x,y,hs,hp,h0,hr=>by
    unfold sole at hs
    split at hs
    · cases ‹i::r=[]›
    · rename_i t1 r1 he
      cases he
      obtain ⟨f,o,h1,rfl,h3⟩:=hp
      simp only [List.getElem?_cons_zero,Option.some.injEq] at h1
      subst h1
      obtain ⟨z,rfl,hz⟩:=rep_solo.1 h0
      exact rep_solo.2 ⟨_,rfl,sole_set r t1 o cs0 cs z y hs h3 hz hr⟩
    · cases hs
def SoleAt (s:St) (p:Pt):Prop:=∃ ob,(s.slot p.id).ob=some ob∧p.gen=(s.slot p.id).gen∧∀ S' cs y,Rep S' p.t cs y→Rep S' ob.t cs (setP ob.t ob.x p.path y)
theorem Rel.handed (h:Rel c gh s a w) {p:Pt} {t:Ty} {x:AV} {v:Value} (hv:PtRel gh s p v) (hb:(p.t.beq t&&s.soleAt p)=true) (hx:s.getPt p=some x) :
    v=.pointer (some ⟨gh.m p.id,0,none⟩)∧Var gh.S w t (gh.m p.id) (t.co x)∧p.t=t∧SoleAt s p:=by
  simp only [Bool.and_eq_true] at hb
  have ht:=Ty.beq_eq _ _ hb.1
  obtain ⟨ob,off,cs,k1,k2,k3,k4,k5,k6,k7⟩:=h.getPt hv hx
  have hs:=hb.2
  have hat:s.obAt p=some ob:=by simp [St.obAt,k2,k1]
  simp only [St.soleAt,hat] at hs
  obtain ⟨cs0,g1,g2,g3,g4⟩:=h.objs p.id ob k1
  obtain ⟨rfl,g5⟩:=sole_get p.path ob.t off cs0 ob.x hs k3 g3
  rw [← k7,ht] at g5
  refine ⟨k4,⟨cs0,g1,?_,g4⟩,ht,ob,k1,k2,fun S' cs y hy=>sole_set p.path ob.t 0 cs0 cs ob.x y hs k3 g3 hy⟩
  rw [Rep.co_eq _ _ _ g5]
  exact g5
theorem Rel.args (h:Rel c gh s a w):∀ (ts:List PTy) (os:List Operand) (caps:List Pt) (cvs:List Value) (l:List AV) (ps:List Pt),
    cvs.length=caps.length→(∀ (i:Nat) p u,caps[i]?=some p→cvs[i]?=some u→PtRel gh s p u)→argsE s ts os caps=some (l,ps) →
    ArgsRel gh.S w ts (os.map a.eval++cvs) l (ps.map fun p=>gh.m p.id)∧ps.map (·.t)=ptrTys ts∧∀ p∈ps,SoleAt s p
  | [],os,caps,cvs,l,ps,hc,hcap,e=>by
    unfold argsE at e
    split at e
    · cases e
      have:cvs=[]:=List.eq_nil_of_length_eq_zero hc
      subst this
      exact ⟨⟨rfl,rfl,rfl⟩,rfl,by simp⟩
    · cases e
  | .val t::ts,os,caps,cvs,l,ps,hc,hcap,e=>by
    unfold argsE at e
    split at e
    · rename_i o os
      obtain ⟨x,hx,e⟩:=bind_some e
      obtain ⟨⟨l',ps'⟩,hr,e⟩:=Option.map_eq_some_iff.1 e
      cases e
      obtain ⟨k1,k2,k3⟩:=h.args ts os caps cvs l' ps' hc hcap hr
      exact ⟨⟨_,_,_,_,rfl,rfl,h.opv hx,k1⟩,k2,k3⟩
    · cases e
  | .ptr t::ts,os,caps,cvs,l,ps,hc,hcap,e=>by
    unfold argsE at e
    split at e
    · rename_i o os
      split at e
      · rename_i p hp
        have hv:=h.ope o
        rw [hp] at hv
        obtain ⟨hb,e⟩:=cond_some e
        obtain ⟨x,hx,e⟩:=bind_some e
        obtain ⟨⟨l',ps'⟩,hr,e⟩:=Option.map_eq_some_iff.1 e
        cases e
        obtain ⟨k1,k2,k3⟩:=h.args ts os caps cvs l' ps' hc hcap hr
        obtain ⟨q1,q2,q3,q4⟩:=h.handed hv hb hx
        refine ⟨⟨_,_,_,_,_,_,rfl,rfl,rfl,q1,q2,k1⟩,by simp [k2,q3,ptrTys],fun p' hp'=>?_⟩
        rcases List.mem_cons.1 hp' with rfl | hp'
        · exact q4
        · exact k3 p' hp'
      · cases e
    · split at e
      · rename_i p caps
        obtain ⟨hb,e⟩:=cond_some e
        obtain ⟨x,hx,e⟩:=bind_some e
        obtain ⟨⟨l',ps'⟩,hr,e⟩:=Option.map_eq_some_iff.1 e
        cases e
        match cvs,hc with
        | v::cvs,hc =>
          have hv:=hcap 0 p v rfl rfl
          obtain ⟨k1,k2,k3⟩:=h.args ts [] caps cvs l' ps' (by simpa using hc) (fun i p u a b=>hcap (i+1) p u (by simpa using a) (by simpa using b)) hr
          obtain ⟨q1,q2,q3,q4⟩:=h.handed hv hb hx
          refine ⟨⟨_,_,_,_,_,_,rfl,rfl,rfl,q1,q2,by simpa using k1⟩,by simp [k2,q3,ptrTys],fun p' hp'=>?_⟩
          rcases List.mem_cons.1 hp' with rfl | hp'
          · exact q4
          · exact k3 p' hp'
      · cases e
theorem memN_iff {n:Nat}:∀ {l:List Nat},memN n l=true ↔ n∈l
  | []=>by simp [memN]
  | k::r=>by
    simp only [memN,List.mem_cons]
    cases hb:Nat.beq k n with
    | true=>have:=Nat.eq_of_beq_eq_true hb; simp [this]
    | false =>
      have:n≠k:=fun e=>by subst e; simp at hb
      simp only [cond_false,this,false_or]
      exact memN_iff
theorem apartN_nodup:∀ {l:List Nat},apartN l=true→l.Nodup
  | [],_=>List.nodup_nil
  | a::r,h=>by
    simp only [apartN,Bool.and_eq_true,Bool.not_eq_true'] at h
    refine List.nodup_cons.2 ⟨fun hm=>?_,apartN_nodup h.2⟩
    rw [memN_iff.2 hm] at h
    simp at h
def outsE (s:St):List Pt→List AV→Option (List (Nat × OSlot))
  | [],[]=>some []
  | p::ps,y::ys=>(s.setPt p (p.t.co y)).bind fun w=>(outsE s ps ys).map (w::·)
  | _,_=>none
def tupE:List PTy→List AV→Option (List (Ty × AV))
  | [],vs=>match vs with
    | []=>some []
    | _::_=>none
  | .val T::Ts,vs=>match vs with
    | v::vs=>(tupE Ts vs).map ((T,T.co v)::·)
    | []=>none
  | .ptr _::_,_=>none
theorem outsK_eq {α:Type}:∀ (ps:List Pt) (ys:List AV) (k:List (Nat × OSlot)→Option α),outsK s ps ys k=(outsE s ps ys).bind k
  | [],[],k=>rfl
  | [],_::_,k=>rfl
  | _::_,[],k=>rfl
  | p::ps,y::ys,k=>by
    simp only [outsK,consV,outsE]
    cases s.setPt p (p.t.co y) with
    | none=>rfl
    | some w =>
      simp only [Option.bind_some]
      rw [outsK_eq ps ys]
      cases outsE s ps ys <;> rfl
theorem tupK_eq {α:Type}:∀ (ts:List PTy) (vs:List AV) (k:List (Ty × AV)→Option α),tupK ts vs k=(tupE ts vs).bind k
  | [],[],k=>rfl
  | [],_::_,k=>rfl
  | .val T::ts,[],k=>rfl
  | .val T::ts,v::vs,k=>by
    simp only [tupK,consV,tupE]
    rw [tupK_eq ts vs]
    cases tupE ts vs <;> rfl
  | .ptr _::_,_,k=>rfl
theorem consV_some {α β:Type} {l:List β} {k:β→List β→Option α} {r:α} (h:consV l k=some r):∃ v vs,l=v::vs∧k v vs=some r:=by
  cases l with
  | nil=>cases h
  | cons v vs=>exact ⟨v,vs,rfl,h⟩
theorem nilV_some {α β:Type} {l:List β} {k:Option α} {r:α} (h:nilV l k=some r):l=[]∧k=some r:=by
  cases l with
  | nil=>exact ⟨rfl,h⟩
  | cons v vs=>cases h
theorem outs_slots {S':Snap} {w':World}:∀ (ps:List Pt) (ys:List AV) (ob:List (Nat × OSlot)) (m:Nat→Nat) (objs:List OSlot),outsE s ps ys=some ob→objs.length=s.objs.length →
    (ps.map Pt.id).Nodup→(∀ p∈ps,SoleAt s p)→OutsRel S' w' (ps.map (·.t)) ys (ps.map fun p=>m p.id) →
    (setAll ob objs).length=s.objs.length∧∀ id,(id ∉ ps.map Pt.id→(setAll ob objs)[id]?=objs[id]?)∧(id∈ps.map Pt.id→∃ o y,(s.slot id).ob=some o∧(setAll ob objs)[id]?=some ⟨(s.slot id).gen,some ⟨o.t,y⟩⟩∧Var S' w' o.t (m id) y)
  | [],ys,ob,m,objs,e,hl,_,_,_=>by
    cases ys <;> simp [outsE] at e
    subst e
    exact ⟨hl,fun id=>⟨fun _=>rfl,fun h=>by simp at h⟩⟩
  | p::ps,ys,ob,m,objs,e,hl,hnd,hp,ho=>by
    cases ys with
    | nil=>simp [outsE] at e
    | cons y ys =>
      simp only [outsE] at e
      obtain ⟨z,hz,e⟩:=bind_some e
      obtain ⟨ob',hob',rfl⟩:=Option.map_eq_some_iff.1 e
      simp only [List.map_cons,OutsRel] at ho
      obtain ⟨y0,ys0,b0,bs0,e1,e2,hv,ho⟩:=ho
      cases e1; cases e2
      obtain ⟨o,q1,q2,q3⟩:=hp p (by simp)
      unfold St.setPt at hz
      obtain ⟨o2,h2,rfl⟩:=Option.map_eq_some_iff.1 hz
      obtain ⟨_,h2⟩:=obAt_some h2
      rw [q1] at h2
      cases h2
      simp only [List.map_cons,List.nodup_cons] at hnd
      have hlt:p.id < s.objs.length:=by
        rcases Nat.lt_or_ge p.id s.objs.length with hh | hh
        · exact hh
        · simp [St.slot,List.getD,List.getElem?_eq_none hh] at q1
      have ih:=outs_slots ps ys ob' m (objs.set p.id ⟨p.gen,some ⟨o.t,setP o.t o.x p.path (p.t.co y)⟩⟩) hob' (by simpa using hl) hnd.2 (fun p' h'=>hp p' (by simp [h'])) ho
      refine ⟨ih.1,fun id=>⟨fun hn=>?_,fun hm=>?_⟩⟩
      · simp only [List.map_cons,List.mem_cons,not_or] at hn
        show (setAll ob' (objs.set p.id _))[id]?=_
        rw [((ih.2 id).1 hn.2),List.getElem?_set_ne (Ne.symm hn.1)]
      · simp only [List.map_cons,List.mem_cons] at hm
        rcases hm with rfl | hm
        · obtain ⟨cs,r1,r,r2⟩:=hv
          refine ⟨o,setP o.t o.x p.path y,q1,?_,⟨cs,r1,q3 _ _ _ r,r2⟩⟩
          show (setAll ob' (objs.set p.id _))[p.id]?=_
          rw [(ih.2 p.id).1 hnd.1,List.getElem?_set_self (by rw [hl]; exact hlt)]
          rw [q2,Rep.co_eq _ _ _ r]
        · exact (ih.2 id).2 hm
theorem tupE_rel {S:Snap}:∀ (ts:List PTy) (xs:List AV) (l:List (Ty × AV)) (vs:List Value),tupE ts xs=some l→TupRel S ts vs xs→vs.length=l.length∧∀ (i:Nat) T x u,l[i]?=some (T,x)→vs[i]?=some u→VRep S T u x
  | [],xs,l,vs,e,r=>by
    cases xs <;> simp [tupE] at e
    subst e
    obtain ⟨rfl,_⟩:=r
    exact ⟨rfl,by simp⟩
  | .val t::ts,xs,l,vs,e,r=>by
    obtain ⟨v,vs',x,xs',rfl,rfl,hv,r⟩:=r
    simp only [tupE] at e
    obtain ⟨l',hl,rfl⟩:=Option.map_eq_some_iff.1 e
    obtain ⟨k1,k2⟩:=tupE_rel ts xs' l' vs' hl r
    refine ⟨by simp [k1],fun i T y u h1 h2=>?_⟩
    cases i with
    | zero =>
      simp at h1 h2
      obtain ⟨rfl,rfl⟩:=h1
      subst h2
      obtain ⟨cs,rfl,rr⟩:=hv
      rw [Rep.co_eq _ _ _ rr]
      exact ⟨cs,rfl,rr⟩
    | succ i=>exact k2 i T y u (by simpa using h1) (by simpa using h2)
  | .ptr _::_,_,_,_,_,r=>r.elim
end Go.Proofs.YtlkkebfjmbfgpaaGreatDoor.Ev
namespace Go.Proofs.YtlkkebfjmbfgpaaGreatDoor.Ev
open Go Go.RowKit
variable {c:Ctx} {gh:Ghost} {s:St} {a:Act} {w:World} {P:Program} {G:Env} {run:Run}
structure FnsOk (P:Program) (G:Env) (run:Run):Prop where
  fn:∀ f i,assoc G.fns f=some i→∃ fn,P.funcs[f]?=some fn∧(fn.name == "runtime.NumGoroutine")=false∧fn.body.isNone=false
  sat:∀ f i xs r,assoc G.fns f=some i→run f xs=some r→Sat P i f xs r
structure TyAll (P:Program) (G:Env):Prop extends EnvOk P G where
  eq:∀ t T,G.tyOf t=some T→T.eqOk=true→P.eqGuardType P.depth t=false∧T.deep≤9999
  mixed:P.follows .mixedOrders=true
  ptrs:∀ t,memN t G.ptrs=true→∃ e,P.underlying t=some (.pointer e)
theorem setAll_append {α:Type}:∀ (l m:List (Nat × α)) (o:List α),setAll (l++m) o=setAll m (setAll l o)
  | [],_,_=>rfl
  | (i,x)::l,m,o=>setAll_append l m (o.set i x)
theorem setAll_len {α:Type}:∀ (l:List (Nat × α)) (o:List α),(setAll l o).length=o.length
  | [],_=>rfl
  | (i,x)::l,o=>by rw [setAll,setAll_len l]; simp
theorem result_next (h:Rel c gh s a w) {o:Oper} {i:FnInfo} {r:Res} {ob:List (Nat × OSlot)} {ro:List Nat} {S':Snap} {w':World} {v:Value} {fx:Eff} {next:Act→World→Prop}
    (hR:Rel c { gh with S:=S' } ⟨s.tmps,setAll ob s.objs,s.owns⟩ a w') (hgen:∀ d,(St.slot ⟨s.tmps,setAll ob s.objs,s.owns⟩ d).gen=(s.slot d).gen)
    (hlive:∀ id o',(St.slot ⟨s.tmps,setAll ob s.objs,s.owns⟩ id).ob=some o'→gh.m id < w.heap.size)
    (hfresh:(!i.fresh || r.fresh)=true) (p5:ResRel S' w' w.heap.size i.results r v) (hd:dstOk s o.dst=true) (hk:resultK s o.dst i.results i.fresh r ob ro some=some fx)
    (hn:∀ gh' a' w',Rel c gh' (fx.apply o.dst s) a' w'→next a' w'):next (a.put o.dst v) w':=by
  have plain:∀ (T:Ty) (x:AV) (v:Value),VRep S' T v x→EntRel { gh with S:=S' } ⟨s.tmps,setAll ob s.objs,s.owns⟩ (.val T none (T.co x)) v:=fun T x v hv=>by
    obtain ⟨cs,rfl,rr⟩:=hv
    rw [Rep.co_eq _ _ _ rr]
    exact .plain ⟨cs,rfl,rr⟩
  unfold resultK at hk
  split at hk
  · rename_i T hts
    simp only [ResRel,hts] at p5
    obtain ⟨v0,e1,hv,hfr⟩:=p5
    rw [e1] at hk
    simp only [consV,nilV] at hk
    unfold oneK at hk
    split at hk
    · rename_i E d hfr' hdst
      simp only [Option.some.injEq] at hk
      subst hk
      rw [hdst] at hd hn
      obtain ⟨e,he,hown⟩:=hfr (by rw [hfr'] at hfresh; simpa using hfresh)
      cases he
      have hlt:d < s.owns.length:=h.dst_own hd
      have hown':OwnRow c.B S' w' v E.size:=by
        rcases hown with h0 | ⟨g,n,cap,cs,q1,q2,q3⟩
        · exact .inl h0
        · exact .inr ⟨g,n,cap,cs,q1,Nat.le_trans h.size q2,q3⟩
      have hvb:∀ b,v.ownBlock=some b→w.heap.size≤b:=fun b hb=>by
        rcases hown with h0 | ⟨g,n,cap,cs,q1,q2,q3⟩
        · rw [h0] at hb; cases hb
        · rw [q1] at hb
          simp [Value.ownBlock] at hb
          omega
      obtain ⟨gh',r1,r2⟩:=hR.named d hlt (s.own d+1) (Nat.lt_succ_self _) (e:=E) (x:=Ty.co (.slice E) v0) hown' (by
          obtain ⟨cs,rfl,rr⟩:=hv
          rw [Rep.co_eq _ _ _ rr]
          exact ⟨cs,rfl,rr⟩)
        (fun g b _ hg hb=>h.fresh_τ (hvb b hb) g hg)
        (fun id o' b ho hb e=>by
          have:=hvb b hb
          have:=hlive id o' ho
          simp only at e
          omega)
      rw [hdst]
      exact hn gh' _ _ (r1.put (some d) r2 hd)
    · simp only [Option.some.injEq] at hk
      subst hk
      exact hn _ _ _ (hR.put o.dst (plain _ _ v hv) hd)
  · rename_i T hts
    simp only [ResRel,hts] at p5
    obtain ⟨v0,b,e1,rfl,hB,cs,q1,q2,q3⟩:=p5
    rw [e1] at hk
    simp only [consV,nilV] at hk
    split at hk
    · rename_i d hdst
      simp only [Option.some.injEq] at hk
      subst hk
      rw [hdst] at hd hn
      have hlt:d < (setAll ob s.objs).length:=by rw [setAll_len]; exact h.dst_obj hd
      have hco:=Rep.co_eq _ _ _ q2
      have hnew:=hR.newOb d ((s.slot d).gen+1) hlt (by rw [hgen]; exact Nat.lt_succ_self _) b ⟨T,T.co v0⟩ ⟨cs,q1,.inl (Nat.le_trans h.size hB),by rw [hco]; exact q2,q3⟩
        (fun id o' ho e=>by
          have:=hlive id o' ho
          simp only at e
          omega)
        (fun g hg=>h.fresh_τ hB g hg)
      have hmid:s.mid ⟨Ent.ptr ⟨T,d,(s.slot d).gen+1,[]⟩,ob++[(d,⟨(s.slot d).gen+1,some ⟨T,T.co v0⟩⟩)],[],d::ro,[]⟩=⟨s.tmps,(setAll ob s.objs).set d ⟨(s.slot d).gen+1,some ⟨T,T.co v0⟩⟩,s.owns⟩:=by
        simp only [St.mid,setAll_append]; rfl
      rw [hdst]
      refine hn { gh with S:=S',m:=upd gh.m d b } _ _ ?_
      rw [Eff.apply_eq,hmid]
      refine hnew.put (some d) ?_ hd
      simp only [EntRel,PtRel]
      show _≤(St.slot ⟨s.tmps,(setAll ob s.objs).set d _,s.owns⟩ d).gen∧(_=(St.slot ⟨s.tmps,(setAll ob s.objs).set d _,s.owns⟩ d).gen→∀ ob',(St.slot ⟨s.tmps,(setAll ob s.objs).set d _,s.owns⟩ d).ob=some ob'→_)
      rw [slot_set (s:=⟨s.tmps,setAll ob s.objs,s.owns⟩) hlt,if_pos rfl]
      refine ⟨Nat.le_refl _,fun _ ob' hob'=>?_⟩
      simp only [Option.some.injEq] at hob'
      subst hob'
      exact ⟨0,⟨rfl,rfl⟩,by rw [upd_same]⟩
    · cases hk
  · rename_i hn1 hn2
    rw [tupK_eq] at hk
    obtain ⟨l',hl',hk⟩:=bind_some hk
    simp only [Option.some.injEq] at hk
    subst hk
    have htup:∃ vs,v=.tuple vs.toArray∧TupRel S' i.results vs r.vals:=by
      unfold ResRel at p5
      split at p5
      · rename_i t ht
        exact (hn1 t ht).elim
      · rename_i t ht
        exact (hn2 t ht).elim
      · exact p5
    obtain ⟨vs,rfl,ht⟩:=htup
    obtain ⟨k1,k2⟩:=tupE_rel _ _ _ vs hl' ht
    exact hn { gh with S:=S' } _ _ (hR.put o.dst (e:=.tup l') (v:=.tuple vs.toArray) ⟨vs,rfl,k1,k2⟩ hd)
theorem callK_wp (hF:FnsOk P G run) (h:Rel c gh s a w) {o:Oper} {f:FuncId} {caps:List Pt} {cvs:List Value} {xs:List Operand} {fx:Eff} {next:Act→World→Prop} {Q:Exit→Act→World→Prop}
    (hx:(execOp a.eval o).run P w=(callFunc f ((xs.map a.eval).toArray++cvs.toArray)).run P w) (hc:cvs.length=caps.length) (hcap:∀ (i:Nat) p u,caps[i]?=some p→cvs[i]?=some u→PtRel gh s p u)
    (hd:dstOk s o.dst=true) (hk:callK G run s o.dst f caps xs some=some fx)
    (hn:∀ gh' a' w',Rel c gh' (fx.apply o.dst s) a' w'→next a' w'):o.wp P a w next Q:=by
  unfold callK at hk
  obtain ⟨i,hi,hk⟩:=bind_some hk
  obtain ⟨⟨l,ps⟩,hargs,hk⟩:=bind_some hk
  obtain ⟨hap,hk⟩:=cond_some hk
  obtain ⟨r,hr,hk⟩:=bind_some hk
  obtain ⟨hfresh,hk⟩:=cond_some hk
  rw [outsK_eq] at hk
  obtain ⟨ob,hob,hk⟩:=bind_some hk
  obtain ⟨fn,hf1,hf2,hf3⟩:=hF.fn f i hi
  obtain ⟨hA,hpt,hps⟩:=h.args i.params xs caps cvs l ps hc hcap hargs
  have hnd:=apartN_nodup hap
  have hbnd:(ps.map fun p=>gh.m p.id).Nodup:=by
    have:∀ (l:List Pt),(l.map Pt.id).Nodup→(∀ p∈l,∃ ob,(s.slot p.id).ob=some ob)→(l.map fun p=>gh.m p.id).Nodup:=by
      intro l
      induction l with
      | nil=>intros; simp
      | cons p l ih =>
        intro h1 h2
        simp only [List.map_cons,List.nodup_cons] at h1 ⊢
        refine ⟨fun hm=>?_,ih h1.2 (fun q hq=>h2 q (by simp [hq]))⟩
        obtain ⟨q,hq,e⟩:=List.mem_map.1 hm
        obtain ⟨o1,e1⟩:=h2 p (by simp)
        obtain ⟨o2,e2⟩:=h2 q (by simp [hq])
        have:=h.minj q.id p.id o2 o1 e2 e1 e
        exact h1.1 (List.mem_map.2 ⟨q,hq,this⟩)
    exact this ps hnd (fun p hp=>by obtain ⟨o,q,_⟩:=hps p hp; exact ⟨o,q⟩)
  have hsat:=hF.sat f i l r hi hr gh.S w (xs.map a.eval++cvs) (ps.map fun p=>gh.m p.id) h.agree hA hbnd
  have hrun:(execOp a.eval o).run P w=.ok (.enter f ((xs.map a.eval)++cvs).toArray) w:=by
    rw [hx]
    have n1:¬ fn.name= "runtime.NumGoroutine":=by simpa using hf2
    have n2:¬ fn.body=none:=fun e=>by rw [e] at hf3; cases hf3
    simp [callFunc,run_program,hf1,n1,n2]
  unfold Oper.wp
  rw [hrun,Oper.upon_enter]
  refine hsat.mono fun e w' hpost=>?_
  obtain ⟨S',v,rfl,p1,p2,p3,p4,p5,p6⟩:=hpost
  show next (a.put o.dst v) w'
  rw [← hpt] at p6
  have hslots:=outs_slots ps r.outs ob gh.m s.objs hob rfl hnd hps p6
  have hmem:∀ b,b∈(ps.map fun p=>gh.m p.id)→∃ id o,id∈ps.map Pt.id∧(s.slot id).ob=some o∧b=gh.m id:=fun b hb=>by
    obtain ⟨p,hp,rfl⟩:=List.mem_map.1 hb
    obtain ⟨o,q,_⟩:=hps p hp
    exact ⟨p.id,o,List.mem_map.2 ⟨p,hp,rfl⟩,q,rfl⟩
  have hR:Rel c { gh with S:=S' } ⟨s.tmps,setAll ob s.objs,s.owns⟩ a w':=by
    refine h.outs p4 (fun b hb=>?_) (fun g b hg hb=>?_) p1 p2 p3 _ hslots.1 (fun id=>?_)
    · obtain ⟨id,o,_,ho,rfl⟩:=hmem b hb
      obtain ⟨_,_,q,_⟩:=h.objs id o ho
      exact q
    · obtain ⟨id,o,_,ho,rfl⟩:=hmem b hb
      exact h.mo id o g _ ho hg rfl
    · by_cases hid:id∈ps.map Pt.id
      · obtain ⟨o,y,q1,q2,q3⟩:=(hslots.2 id).2 hid
        have hslot:St.slot ⟨s.tmps,setAll ob s.objs,s.owns⟩ id=⟨(s.slot id).gen,some ⟨o.t,y⟩⟩:=by
          show (setAll ob s.objs).getD id _=_
          simp [List.getD,q2]
        rw [hslot]
        refine ⟨rfl,fun o' e=>?_⟩
        simp only [Option.some.injEq] at e
        subst e
        exact ⟨o,q1,rfl,.inr q3⟩
      · have hslot:St.slot ⟨s.tmps,setAll ob s.objs,s.owns⟩ id=s.slot id:=by
          show (setAll ob s.objs).getD id _=_
          simp [List.getD,(hslots.2 id).1 hid,St.slot]
        rw [hslot]
        refine ⟨rfl,fun o' e=>⟨o',e,rfl,.inl ⟨rfl,fun hm=>?_⟩⟩⟩
        obtain ⟨id',o2,hin,ho2,e2⟩:=hmem _ hm
        have:=h.minj id id' o' o2 e ho2 e2
        subst this
        exact hid hin
  have hgen:∀ d,(St.slot ⟨s.tmps,setAll ob s.objs,s.owns⟩ d).gen=(s.slot d).gen:=fun d=>by
    by_cases hid:d∈ps.map Pt.id
    · obtain ⟨o,y,q1,q2,q3⟩:=(hslots.2 d).2 hid
      show ((setAll ob s.objs).getD d _).gen=_
      simp [List.getD,q2]
    · show ((setAll ob s.objs).getD d _).gen=_
      simp [List.getD,(hslots.2 d).1 hid,St.slot]
  have hlive:∀ id o',(St.slot ⟨s.tmps,setAll ob s.objs,s.owns⟩ id).ob=some o'→gh.m id < w.heap.size:=fun id o' ho=>by
    have:∃ o,(s.slot id).ob=some o:=by
      by_cases hid:id∈ps.map Pt.id
      · obtain ⟨o,y,q1,q2,q3⟩:=(hslots.2 id).2 hid
        exact ⟨o,q1⟩
      · have hslot:St.slot ⟨s.tmps,setAll ob s.objs,s.owns⟩ id=s.slot id:=by
          show (setAll ob s.objs).getD id _=_
          simp [List.getD,(hslots.2 id).1 hid,St.slot]
        rw [hslot] at ho
        exact ⟨o',ho⟩
    obtain ⟨o,ho⟩:=this
    obtain ⟨_,q2,_⟩:=h.objs id o ho
    exact q2.lt
  exact result_next h hR hgen hlive hfresh p5 hd hk hn
theorem valTys_some:∀ (ps:List PTy) (ts:List Ty),valTys ps=some ts→ps=ts.map .val
  | [],ts,h=>by simp [valTys] at h; subst h; rfl
  | .val t::r,ts,h=>by
    simp only [valTys] at h
    obtain ⟨l,hl,rfl⟩:=Option.map_eq_some_iff.1 h
    rw [valTys_some r l hl]; rfl
  | .ptr _::_,_,h=>by cases h
theorem args_vals {S:Snap} {w:World}:∀ (ts:List Ty) (vs:List Value) (xs:List AV),vs.length=ts.length→xs.length=ts.length→(∀ (k:Nat) t v x,ts[k]?=some t→vs[k]?=some v→xs[k]?=some x→VRep S t v x)→ArgsRel S w (ts.map .val) vs xs []
  | [],vs,xs,h1,h2,_=>by
    cases vs <;> cases xs <;> simp at h1 h2
    exact ⟨rfl,rfl,rfl⟩
  | t::ts,vs,xs,h1,h2,h=>by
    cases vs with
    | nil=>simp at h1
    | cons v vs=>cases xs with
      | nil=>simp at h2
      | cons x xs=>exact ⟨v,vs,x,xs,rfl,rfl,h 0 t v x rfl rfl rfl,args_vals ts vs xs (by simpa using h1) (by simpa using h2) fun k t' v' x' a b e=>h (k+1) t' v' x' (by simpa using a) (by simpa using b) (by simpa using e)⟩
theorem opvs_some (h:Rel c gh s a w):∀ (ts:List Ty) (os:List Operand) (ys:List AV),s.opvs ts os=some ys→os.length=ts.length∧ys.length=ts.length∧∀ (k:Nat) t o y,ts[k]?=some t→os[k]?=some o→ys[k]?=some y→VRep gh.S t (a.eval o) y
  | [],[],ys,e=>by simp [St.opvs] at e; subst e; exact ⟨rfl,rfl,by simp⟩
  | [],_::_,ys,e=>by simp [St.opvs] at e
  | _::_,[],ys,e=>by simp [St.opvs] at e
  | t::ts,o::os,ys,e=>by
    simp only [St.opvs] at e
    obtain ⟨x,hx,e⟩:=bind_some e
    obtain ⟨l,hl,rfl⟩:=Option.map_eq_some_iff.1 e
    obtain ⟨h1,h2,h3⟩:=opvs_some h ts os l hl
    refine ⟨by simp [h1],by simp [h2],fun k t' o' y a1 a2 a3=>?_⟩
    cases k with
    | zero=>simp at a1 a2 a3; subst a1; subst a2; subst a3; exact h.opv hx
    | succ k=>exact h3 k t' o' y (by simpa using a1) (by simpa using a2) (by simpa using a3)
theorem pickN_get (xs:List AV):∀ (i n k:Nat),k < n→(pickN xs i n)[k]?=some (nth xs (i+k))
  | _,0,_,h=>by omega
  | i,n+1,0,_=>by simp [pickN]
  | i,n+1,k+1,h=>by
    simp only [pickN,List.getElem?_cons_succ]
    rw [pickN_get xs (i+1) n k (by omega)]
    congr 2; omega
theorem pickN_len (xs:List AV):∀ (i n:Nat),(pickN xs i n).length=n
  | _,0=>rfl
  | i,n+1=>by simp [pickN,pickN_len xs (i+1) n]
theorem beqL_get {ts us:List Ty} (h:Ty.beqL ts us=true) {k:Nat} {t:Ty} (e:ts[k]?=some t):us[k]?=some t:=by rw [← Ty.beqL_eq ts us h]; exact e
theorem closArgs_rel (h:Rel c gh s a w) {ts:List Ty} {fs cp:List Nat} {i:FnInfo} {xs:List AV} {os:List Operand} {l:List AV} {vs us:List Value} (e:closArgs s ts fs cp i xs os=some l)
    (h1:vs.length=fs.length) (h2:us.length=cp.length) (h3:xs.length=fs.length+cp.length)
    (h4:∀ (k:Nat) i v y,(fs++cp)[k]?=some i→(vs++us)[k]?=some v→xs[k]?=some y→RepAt gh.S ts i v y) :
    ArgsRel gh.S w i.params (vs++(os.map a.eval++us)) l []:=by
  unfold closArgs at e
  obtain ⟨all,ha,e⟩:=bind_some e
  obtain ⟨hc,e⟩:=cond_some e
  obtain ⟨ys,hy,rfl⟩:=Option.map_eq_some_iff.1 e
  simp only [Bool.and_eq_true] at hc
  obtain ⟨c1,c2,c3⟩:=hc
  have c1:=Nat.eq_of_beq_eq_true c1
  obtain ⟨o1,o2,o3⟩:=opvs_some h _ _ _ hy
  have o4:((all.drop fs.length).take os.length).length=os.length:=by simp; omega
  rw [valTys_some _ _ ha]
  refine args_vals _ _ _ (by simp; omega) (by simp [pickN_len]; omega) fun k t v x e1 e2 e3=>?_
  have hk:k < all.length:=(List.getElem?_eq_some_iff.1 e1).1
  by_cases k1:k < fs.length
  · have f1:(all.take fs.length)[k]?=some t:=by rw [List.getElem?_take,if_pos k1]; exact e1
    have f2:=beqL_get c2 f1
    rw [List.getElem?_map] at f2
    obtain ⟨ix,hix,rfl⟩:=Option.map_eq_some_iff.1 f2
    rw [List.getElem?_append_left (by omega)] at e2
    rw [List.getElem?_append_left (by rw [pickN_len]; exact k1),pickN_get _ _ _ _ k1,Nat.zero_add] at e3
    cases e3
    have:=h4 k ix v (nth xs k) (by rw [List.getElem?_append_left k1]; exact hix) (by rw [List.getElem?_append_left (by omega)]; exact e2) (by rw [List.getElem?_eq_getElem (by omega)]; simp [nth,show k < xs.length by omega])
    exact this.get
  · by_cases k2:k < fs.length+os.length
    · have f1:((all.drop fs.length).take os.length)[k-fs.length]?=some t:=by
        rw [List.getElem?_take,if_pos (by omega),List.getElem?_drop,show fs.length+(k-fs.length)=k by omega]; exact e1
      rw [List.getElem?_append_right (by omega),h1,List.getElem?_append_left (by simp; omega),List.getElem?_map] at e2
      obtain ⟨o',ho',rfl⟩:=Option.map_eq_some_iff.1 e2
      rw [List.getElem?_append_right (by rw [pickN_len]; omega),pickN_len,List.getElem?_append_left (by omega)] at e3
      exact o3 _ _ _ _ f1 ho' e3
    · have f1:(all.drop (fs.length+os.length))[k-(fs.length+os.length)]?=some t:=by
        rw [List.getElem?_drop,show fs.length+os.length+(k-(fs.length+os.length))=k by omega]; exact e1
      have f2:=beqL_get c3 f1
      rw [List.getElem?_map] at f2
      obtain ⟨ix,hix,rfl⟩:=Option.map_eq_some_iff.1 f2
      rw [List.getElem?_append_right (by omega),h1,List.getElem?_append_right (by simp; omega),List.length_map] at e2
      rw [List.getElem?_append_right (by rw [pickN_len]; omega),pickN_len,List.getElem?_append_right (by omega),o2,o4,pickN_get _ _ _ _ (by omega)] at e3
      cases e3
      have:=h4 (k-os.length) ix v (nth xs (fs.length+(k-fs.length-os.length))) (by rw [List.getElem?_append_right (by omega),show k-os.length-fs.length=k-(fs.length+os.length) by omega]; exact hix)
        (by rw [List.getElem?_append_right (by omega),h1,show k-os.length-fs.length=k-fs.length-os.length by omega]; exact e2)
        (by rw [show fs.length+(k-fs.length-os.length)=k-os.length by omega,List.getElem?_eq_getElem (by omega)]; simp [nth,show k-os.length < xs.length by omega])
      exact this.get
theorem callV_wp (hF:FnsOk P G run) (h:Rel c gh s a w) {o:Oper} {f:FuncId} {i:FnInfo} {vals:List Value} {l:List AV} {fx:Eff} {next:Act→World→Prop} {Q:Exit→Act→World→Prop}
    (hi:assoc G.fns f=some i) (hx:(execOp a.eval o).run P w=(callFunc f vals.toArray).run P w) (hA:ArgsRel gh.S w i.params vals l [])
    (hd:dstOk s o.dst=true) (hk:callV run s o.dst f i l some=some fx)
    (hn:∀ gh' a' w',Rel c gh' (fx.apply o.dst s) a' w'→next a' w'):o.wp P a w next Q:=by
  unfold callV at hk
  obtain ⟨r,hr,hk⟩:=bind_some hk
  obtain ⟨hfresh,hk⟩:=cond_some hk
  obtain ⟨fn,hf1,hf2,hf3⟩:=hF.fn f i hi
  have hsat:=hF.sat f i l r hi hr gh.S w vals [] h.agree hA (by simp)
  have hrun:(execOp a.eval o).run P w=.ok (.enter f vals.toArray) w:=by
    rw [hx]
    have n1:¬ fn.name= "runtime.NumGoroutine":=by simpa using hf2
    have n2:¬ fn.body=none:=fun e=>by rw [e] at hf3; cases hf3
    simp [callFunc,run_program,hf1,n1,n2]
  unfold Oper.wp
  rw [hrun,Oper.upon_enter]
  refine hsat.mono fun e w' hpost=>?_
  obtain ⟨S',v,rfl,p1,p2,p3,p4,p5,p6⟩:=hpost
  show next (a.put o.dst v) w'
  cases ho:r.outs with
  | cons y ys=>rw [ho] at hk; cases hk
  | nil =>
  rw [ho] at hk
  have hk:resultK s o.dst i.results i.fresh r [] [] some=some fx:=hk
  have hslot:∀ id,St.slot ⟨s.tmps,setAll [] s.objs,s.owns⟩ id=s.slot id:=fun id=>rfl
  have hR:Rel c { gh with S:=S' } ⟨s.tmps,setAll [] s.objs,s.owns⟩ a w':=by
    refine h.outs p4 (by simp) (by simp) p1 p2 p3 _ rfl (fun id=>?_)
    rw [hslot]
    exact ⟨rfl,fun o' e=>⟨o',e,rfl,.inl ⟨rfl,by simp⟩⟩⟩
  exact result_next h hR (fun d=>by rw [hslot]) (fun id o' ho'=>by
    rw [hslot] at ho'
    obtain ⟨_,q2,_⟩:=h.objs id o' ho'
    exact q2.lt) hfresh p5 hd hk hn
theorem closK_wp (hF:FnsOk P G run) (h:Rel c gh s a w) {o:Oper} {ts:List Ty} {x:AV} {os:List Operand} {f:FuncId} {fs cp:List Nat} {vs us:Array Value} {xs:List AV} {fx:Eff} {next:Act→World→Prop} {Q:Exit→Act→World→Prop}
    (hx:(execOp a.eval o).run P w=(callFunc f (vs++(os.map a.eval).toArray++us)).run P w) (e1:x=.clo f xs)
    (h1:vs.size=fs.length) (h2:us.size=cp.length) (h3:xs.length=fs.length+cp.length)
    (h4:∀ (k:Nat) i v y,(fs++cp)[k]?=some i→(vs.toList++us.toList)[k]?=some v→xs[k]?=some y→RepAt gh.S ts i v y)
    (hd:dstOk s o.dst=true) (hn:∀ gh' a' w',Rel c gh' (fx.apply o.dst s) a' w'→next a' w') :
    ∀ (l:List (Nat × (List Nat × List Nat))),assoc l f=some (fs,cp)→closK G run s o.dst ts x os some l=some fx→o.wp P a w next Q
  | [],e,_=>by cases e
  | (g,(gs,gp))::r,e,hk=>by
    subst e1
    simp only [assoc] at e
    simp only [closK,AV.cloF,AV.cloXs] at hk
    cases hb:Nat.beq g f with
    | false =>
      rw [hb,cond_false] at e
      have:Nat.beq f g=false:=by
        cases hc:Nat.beq f g with
        | false=>rfl
        | true =>
          have:=Nat.eq_of_beq_eq_true hc
          subst this
          rw [hc] at hb; cases hb
      rw [this,cond_false] at hk
      exact closK_wp hF h hx rfl h1 h2 h3 h4 hd hn r e hk
    | true =>
      rw [hb,cond_true] at e
      have:=Nat.eq_of_beq_eq_true hb
      subst this
      cases e
      rw [hb,cond_true] at hk
      cases h0:Nat.beq g 0 with
      | true=>rw [h0] at hk; cases hk
      | false =>
      rw [h0,cond_false] at hk
      obtain ⟨i,hi,hk⟩:=bind_some hk
      obtain ⟨l,hl,hk⟩:=bind_some hk
      refine callV_wp hF h hi (vals:=vs.toList++(os.map a.eval++us.toList)) ?_ (closArgs_rel h hl (by simpa using h1) (by simpa using h2) h3 h4) hd hk hn
      rw [hx]
      congr 2
      apply Array.toList_inj.1
      simp
end Go.Proofs.YtlkkebfjmbfgpaaGreatDoor.Ev
namespace Go.Proofs.YtlkkebfjmbfgpaaGreatDoor.Ev
open Go Go.RowKit
variable {c:Ctx} {gh:Ghost} {s:St} {a:Act} {w:World} {P:Program} {G:Env} {run:Run} {o:Oper} {fx:Eff} {next:Act→World→Prop} {Q:Exit→Act→World→Prop}
theorem capsE_some:∀ (os:List Operand) (l:List Pt),capsE s os=some l→l.length=os.length∧∀ (i:Nat) p x,l[i]?=some p→os[i]?=some x→s.ope x=.ptr p
  | [],l,h=>by simp [capsE] at h; subst h; exact ⟨rfl,by simp⟩
  | o::os,l,h=>by
    simp only [capsE] at h
    split at h
    · rename_i p hp
      obtain ⟨l',hl,rfl⟩:=Option.map_eq_some_iff.1 h
      obtain ⟨h1,h2⟩:=capsE_some os l' hl
      refine ⟨by simp [h1],fun i q x a b=>?_⟩
      cases i with
      | zero=>simp at a b; subst a; subst b; exact hp
      | succ i=>exact h2 i q x (by simpa using a) (by simpa using b)
    · cases h
theorem map_toArr {α β:Type} (f:α→β) (xs:Array α):(xs.toList.map f).toArray=xs.map f:=by
  apply Array.toList_inj.1
  simp
theorem andThen_twice {α β γ:Type} (m:Result α) (f:α→World→Result β) (g:β→World→Result γ) :
    (m.andThen f).andThen g=m.andThen fun x w=>(f x w).andThen g:=by
  cases m <;> rfl
theorem move_wp (h:Rel c gh s a w) (hd:dstOk s o.dst=true) (x:Operand) (_hT:TyAll P G)
    (hk:(match x with
    | .tmp i=>tell (s.look i) some
    | .const v=>bif isNilPtr v then tell .any some else (G.tyOf o.type).bind fun T=>(T.const v).bind fun a=>constK s o.dst T v a some
    | .func f=>tell (.val .fn none (.fn f)) some
    | _=>none)=some fx) (hx:(execOp a.eval o).run P w=.ok (.value (a.eval x)) w)
    (hn:∀ gh' a' w',Rel c gh' (fx.apply o.dst s) a' w'→next a' w'):o.wp P a w next Q:=by
  cases x <;> simp only at hk <;> (try (cases hk; done))
  case tmp i =>
    rw [tell_some hk] at hn
    exact wp_tell h hx (h.tmps i) hd hn
  case const v =>
    cases hb:isNilPtr v
    case true =>
      rw [hb,cond_true] at hk
      rw [tell_some hk] at hn
      exact wp_tell (e:=.any) h hx trivial hd hn
    rw [hb,cond_false] at hk
    replace hk:=bind_some hk; obtain ⟨T,_,hk⟩:=hk
    replace hk:=bind_some hk; obtain ⟨y,hy,hk⟩:=hk
    unfold constK at hk
    split at hk
    · rename_i E
      exact (tellOwn_nil (P:=P) (m:=pure (.slice none 0 0)) h hd (by simp) hk).wp (by rw [hx]; simp [Act.eval]) hd hn
    · rw [tell_some hk] at hn
      exact wp_tell h hx (.plain (const_rep gh.S hy)) hd hn
  case func f =>
    rw [tell_some hk] at hn
    exact wp_tell (e:=.val .fn none (.fn f)) h hx (.plain ⟨[.func (.func f) #[] #[]],(val_one rfl _).symm,f,rfl,rfl⟩) hd hn
theorem box_does (h:Rel c gh s a w) {t:TypeId} {T:Ty} {v:Value} {x:AV} {f:Eff} (hv:VRep gh.S T v x) (hk:tell (.val (.pat T) none x) some=some f) :
    Does P c s a w (do pure (.pointer (some (← Go.newVar t v)))) f:=by
  have hk:=tell_some hk
  subst hk
  obtain ⟨cs,rfl,hr⟩:=hv
  have hc:=val_cells (Rep.len _ _ _ hr) (Rep.one _ _ _ hr)
  obtain ⟨h2,hrow⟩:=h.alloc w ⟨rfl,rfl,rfl,rfl⟩ cs [] t
  rw [List.append_nil] at h2
  refine ⟨_,.pointer (some ⟨w.heap.size,0,none⟩),w.alloc (.cells cs.toArray t),?_,h2,?_⟩
  · simp [Go.newVar,hc]
    rfl
  · refine .plain ⟨[.pointer (some ⟨w.heap.size,0,none⟩)],(val_one rfl _).symm,?_⟩
    simp only [Rep]
    exact ⟨⟨w.heap.size,0,none⟩,cs,rfl,Snap.plus_has cs (h.off_new (Nat.le_refl _)),Rep.len _ _ _ hr,Rep.mono (Snap.le_plus _ _ _ _) _ _ _ hr⟩
theorem makeClo_does (h:Rel c gh s a w) {f:FuncId} {alts:List (Nat × (List Nat × List Nat))} {ts:List Ty} {first caps:Array Operand} {fx:Eff} (hk:makeCloK s f alts ts first.toList caps.toList some=some fx) :
    Does P c s a w (pure (.func (.func f) (first.map a.eval) (caps.map a.eval))) fx:=by
  unfold makeCloK at hk
  obtain ⟨⟨fs,cp⟩,ha,hk⟩:=bind_some hk
  obtain ⟨hc,hk⟩:=cond_some hk
  obtain ⟨xs,hx,hk⟩:=bind_some hk
  obtain ⟨ys,hy,hk⟩:=bind_some hk
  have hk:=tell_some hk
  subst hk
  simp only [Bool.and_eq_true,List.all_eq_true] at hc
  obtain ⟨⟨⟨c1,c2⟩,c3⟩,c4⟩:=hc
  have c1:=Nat.eq_of_beq_eq_true c1
  have c2:=Nat.eq_of_beq_eq_true c2
  obtain ⟨o1,o2,o3⟩:=opvs_some h _ _ _ hx
  obtain ⟨p1,p2,p3⟩:=opvs_some h _ _ _ hy
  rw [List.length_map] at o1 o2 p1 p2
  have lt:∀ i,Nat.blt i ts.length=true→i < ts.length:=fun i hi=>Nat.le_of_ble_eq_true hi
  refine ⟨gh,_,w,rfl,h,.plain ⟨[_],(val_one rfl _).symm,?_⟩⟩
  simp only [Rep]
  refine .inr ⟨f,fs,cp,_,_,xs++ys,rfl,rfl,ha,by simpa using c1,by simpa using c2,by simp; omega,fun k i v y e1 e2 e3=>?_⟩
  simp only [Array.toList_map] at e2
  by_cases hk:k < fs.length
  · rw [List.getElem?_append_left hk] at e1
    rw [List.getElem?_append_left (by simp; simp at c1; omega),List.getElem?_map] at e2
    obtain ⟨op,hop,rfl⟩:=Option.map_eq_some_iff.1 e2
    rw [List.getElem?_append_left (by omega)] at e3
    exact .mk (lt i (c3 i (List.mem_of_getElem? e1))) (o3 k (getT ts i) op y (by rw [List.getElem?_map,e1]; rfl) hop e3)
  · rw [List.getElem?_append_right (by omega)] at e1
    rw [List.getElem?_append_right (by simp; simp at c1; omega),List.length_map,c1,List.getElem?_map] at e2
    obtain ⟨op,hop,rfl⟩:=Option.map_eq_some_iff.1 e2
    rw [List.getElem?_append_right (by omega),o2] at e3
    exact .mk (lt i (c4 i (List.mem_of_getElem? e1))) (p3 (k-fs.length) (getT ts i) op y (by rw [List.getElem?_map,e1]; rfl) hop e3)
theorem closK_nil {d:Option Nat} {ts:List Ty} {x:AV} {os:List Operand} {f:Eff} (e:x=.clo 0 []):∀ {l:List (Nat × (List Nat × List Nat))},closK G run s d ts x os some l=some f→False
  | [],hk=>by cases hk
  | (g,(gs,gp))::r,hk=>by
    subst e
    simp only [closK,AV.cloF] at hk
    cases hb:Nat.beq 0 g with
    | false=>rw [hb,cond_false] at hk; exact closK_nil rfl hk
    | true =>
      have:=Nat.eq_of_beq_eq_true hb
      subst this
      rw [hb,cond_true,cond_true] at hk
      cases hk
theorem ptrTest_some {op:BinOp} {t:TypeId} {x y:Operand} {p:Pt} {b:Bool} (h:ptrTest G s op t x y=some (p,b)) :
    memN t G.ptrs=true∧∃ (_:Unit) (_:Unit),s.ope x=.ptr p∧y=.const (.pointer none)∧(op=.eql∧b=false∨op=.neq∧b=true):=by
  unfold ptrTest at h
  cases hm:memN t G.ptrs with
  | false=>rw [hm] at h; cases h
  | true =>
    rw [hm,cond_true] at h
    refine ⟨rfl,(),(),?_⟩
    split at h
    · rename_i hx
      cases h
      exact ⟨hx,rfl,.inl ⟨rfl,rfl⟩⟩
    · rename_i hx
      cases h
      exact ⟨hx,rfl,.inr ⟨rfl,rfl⟩⟩
    · cases h
theorem run_isNil {t e:TypeId} {a:Addr} {x y:Operand} {op:BinOp} {b:Bool} (he:P.underlying t=some (.pointer e)) (hop:op=.eql∧b=false∨op=.neq∧b=true) :
    (do eqGuard op t x y (.pointer (some a)) (.pointer none); binOp op t (.pointer (some a)) (.pointer none):Sem Value).run P w=.ok (.bool b) w:=by
  have h1:(Op.equal t (.pointer (some a)) (.pointer none)).run P w=.ok false w:=by
    show (Op.equalIn (9999+1) t (.pointer (some a)) (.pointer none)).run P w=.ok false w
    rw [Op.equalIn]
    simp only [Sem.run_bind,run_underlying he,Result.andThen_ok]
    rfl
  have hg:(eqGuard op t x y (.pointer (some a)) (.pointer none)).run P w=.ok () w:=eqGuard_plain (by intro cs e; cases e) (by intro e; cases e)
  rcases hop with ⟨rfl,rfl⟩ | ⟨rfl,rfl⟩
  · simp only [Sem.run_bind,hg,Result.andThen_ok]
    simp only [binOp,Sem.run_bind,h1,Result.andThen_ok]
    rfl
  · simp only [Sem.run_bind,hg,Result.andThen_ok]
    simp only [binOp,Sem.run_bind,h1,Result.andThen_ok]
    rfl
theorem op_sound (hT:TyAll P G) (hF:FnsOk P G run) (h:Rel c gh s a w) (hd:dstOk s o.dst=true) (hk:opK G run o s some=some fx)
    (hn:∀ gh' a' w',Rel c gh' (fx.apply o.dst s) a' w'→next a' w'):o.wp P a w next Q:=by
  have hP:=hT.toEnvOk
  cases ho:o.op <;> simp only [opK,ho] at hk <;> (try (cases hk; done))
  case move x=>exact move_wp h hd x hT hk (by simp [execOp,ho]) hn
  case assign x=>exact move_wp h hd x hT hk (by simp [execOp,ho]) hn
  case pick cx x y =>
    replace hk:=bind_some hk; obtain ⟨u,hu,hk⟩:=hk
    replace hk:=bind_some hk; obtain ⟨z,hz,hk⟩:=hk
    obtain ⟨b0,e0,rfl⟩:=(h.opv hu).bool
    rw [tell_some hk] at hn
    cases b0 with
    | true =>
      obtain ⟨b1,e1,rfl⟩:=(h.opv hz).bool
      refine wp_tell (v:=.bool b1) h ?_ (.plain (.bool_mk _)) hd hn
      simp only [execOp,ho,e0,e1,asBool,Sem.run_bind,Sem.run_pure,Result.andThen_ok]
      simp
    | false =>
      obtain ⟨b1,e1,rfl⟩:=(h.opv hz).bool
      refine wp_tell (v:=.bool b1) h ?_ (.plain (.bool_mk _)) hd hn
      simp only [execOp,ho,e0,e1,asBool,Sem.run_bind,Sem.run_pure,Result.andThen_ok]
      simp
  case alloc t =>
    replace hk:=bind_some hk; obtain ⟨T,ht,hk⟩:=hk
    replace hk:=cond_some hk; obtain ⟨hf,hk⟩:=hk
    have hz:VRep gh.S T (T.val T.zeroCells) T.zero:=⟨_,rfl,zero_rep gh.S T hf⟩
    refine (tellNew_does (P:=P) (t:=t) h hd hz hk).wp ?_ hd hn
    simp only [execOp,ho,Instr.alloc,Sem.run_bind,(hP.ty _ _ ht).zero,Result.andThen_ok,Sem.run_pure]
  case box t x =>
    replace hk:=bind_some hk; obtain ⟨T,ht,hk⟩:=hk
    replace hk:=bind_some hk; obtain ⟨u,hu,hk⟩:=hk
    cases hm:memN t G.froz with
    | false =>
      rw [hm,cond_false] at hk
      refine (tellNew_does (P:=P) (t:=t) h hd (h.opv hu) hk).wp ?_ hd hn
      simp only [execOp,ho,Instr.box,Sem.run_bind,Sem.run_pure]
    | true =>
      rw [hm,cond_true] at hk
      refine (box_does (P:=P) (t:=t) h (h.opv hu) hk).wp ?_ hd hn
      simp only [execOp,ho,Instr.box,Sem.run_bind,Sem.run_pure]
  case build t ps =>
    replace hk:=bind_some hk; obtain ⟨T,ht,hk⟩:=hk
    replace hk:=cond_some hk; obtain ⟨hf,hk⟩:=hk
    unfold buildK at hk
    have run:∀ (m:Sem Value),(do let v ← m; pure (Next.value v):Sem Next).run P w=(m.run P w).andThen fun v w'=>.ok (.value v) w':=fun m=>by simp
    cases T <;> simp only at hk <;> (try (cases hk; done))
    case struct fs =>
      replace hk:=bind_some hk; obtain ⟨l,hl,hk⟩:=hk
      rw [tell_some hk] at hn
      exact (build_tells hP h ht hf (.inl ⟨fs,l,rfl,hl,rfl⟩)).wp (by simp only [execOp,ho]; exact run _) h hd hn
    case arr n e =>
      replace hk:=bind_some hk; obtain ⟨l,hl,hk⟩:=hk
      rw [tell_some hk] at hn
      exact (build_tells hP h ht hf (.inr (.inl ⟨n,e,l,rfl,hl,rfl⟩))).wp (by simp only [execOp,ho]; exact run _) h hd hn
    case blob n =>
      replace hk:=bind_some hk; obtain ⟨l,hl,hk⟩:=hk
      rw [tell_some hk] at hn
      exact (build_tells hP h ht hf (.inr (.inr ⟨n,l,rfl,hl,rfl⟩))).wp (by simp only [execOp,ho]; exact run _) h hd hn
  case buildSlice t n ps =>
    replace hk:=bind_some hk; obtain ⟨T,ht,hk⟩:=hk
    unfold buildSliceK at hk
    split at hk
    · rename_i E
      replace hk:=bind_some hk; obtain ⟨l,hl,hk⟩:=hk
      replace hk:=cond_some hk; obtain ⟨hc,hk⟩:=hk
      simp only [Bool.and_eq_true] at hc
      exact (buildSlice_does hP h hd ht hc.2 hl (Nat.le_of_ble_eq_true hc.1) hk).wp (by simp [execOp,ho]) hd hn
    · cases hk
  case load t x =>
    replace hk:=bind_some hk; obtain ⟨T,ht,hk⟩:=hk
    unfold loadK at hk
    split at hk
    · rename_i T' y hx
      replace hk:=cond_some hk; obtain ⟨hb,hk⟩:=hk
      have:=Ty.beq_eq _ _ hb
      subst this
      rw [tell_some hk] at hn
      exact (load_at hP h ht hx).wp (by simp [execOp,ho]) h hd hn
    · rename_i p hx
      replace hk:=cond_some hk; obtain ⟨hb,hk⟩:=hk
      have:=Ty.beq_eq _ _ hb
      subst this
      replace hk:=bind_some hk; obtain ⟨y,hy,hk⟩:=hk
      have hf:fx=⟨.val p.t none (p.t.co y),[],[],[p.id],[]⟩:=by simpa [tellR,eq_comm] using hk
      subst hf
      exact (load_ptr hP h ht hx hy).wp (by simp [execOp,ho]) h hd hn
    · cases hk
  case store t x y =>
    replace hk:=bind_some hk; obtain ⟨T,ht,hk⟩:=hk
    unfold storeK at hk
    split at hk
    · rename_i p hx
      replace hk:=cond_some hk; obtain ⟨hb,hk⟩:=hk
      have:=Ty.beq_eq _ _ hb
      subst this
      replace hk:=bind_some hk; obtain ⟨u,hu,hk⟩:=hk
      replace hk:=bind_some hk; obtain ⟨z,hz,hk⟩:=hk
      simp only [Option.some.injEq] at hk
      subst hk
      have hv:=h.ope x
      rw [hx] at hv
      obtain ⟨ad,w',h1,h2,h3⟩:=h.setPt (P:=P) hv (h.opv hu) hz
      have hrun:(execOp a.eval o).run P w=.ok .skip w':=by
        simp [execOp,ho,Instr.storeAt,h1,Instr.sureAddr,h2 t (hP.ty _ _ ht)]
      unfold Oper.wp
      rw [hrun]
      exact hn gh _ _ (h3.put o.dst (e:=.undef) (v:=undef) rfl hd)
    · cases hk
  case nilCheck x =>
    split at hk
    · rename_i T y hx
      have hv:=h.ope x
      rw [hx] at hv
      rw [tell_some hk] at hn
      obtain ⟨p,cs,h1,h2,h3⟩:=hv
      exact wp_tell (e:=.at T y) (v:=a.eval x) h (by simp [execOp,ho,h1]) ⟨p,cs,h1,h2,h3⟩ hd hn
    · rename_i p hx
      have hv:=h.ope x
      rw [hx] at hv
      obtain ⟨ob,hgen,hob,rfl⟩:=liveK_some hk
      obtain ⟨off,k1,k2⟩:=hv.2 hgen ob hob
      exact wp_tell (v:=a.eval x) h (by simp [execOp,ho,k2]) hv hd hn
    · cases hk
  case binOp op t x y yt =>
    split at hk
    · rename_i p b hp
      obtain ⟨hm,off,q,hx,hy,hop⟩:=ptrTest_some hp
      have hv:=h.ope x
      rw [hx] at hv
      obtain ⟨ob,hgen,hob,rfl⟩:=liveK_some hk
      obtain ⟨off,k1,k2⟩:=hv.2 hgen ob hob
      obtain ⟨e,he⟩:=hT.ptrs t hm
      subst hy
      have hr:(do eqGuard op t x (.const (.pointer none)) (a.eval x) (a.eval (.const (.pointer none))); binOp op t (a.eval x) (a.eval (.const (.pointer none))):Sem Value).run P w=.ok (.bool b) w:=by
        rw [k2]; exact run_isNil he hop
      exact (Tells.mk hr (.plain (.bool_mk _))).wp (by simp [execOp,ho,andThen_twice]) h hd hn
    replace hk:=bind_some hk; obtain ⟨T,ht,hk⟩:=hk
    exact (binK_tells hP hT.eq h ht hk).wp (by simp [execOp,ho,andThen_twice]) h hd hn
  case unOp op t x =>
    replace hk:=bind_some hk; obtain ⟨T,ht,hk⟩:=hk
    exact (unK_tells h hk).wp (by simp [execOp,ho]) h hd hn
  case convert src dst x =>
    replace hk:=bind_some hk; obtain ⟨A,hA,hk⟩:=hk
    replace hk:=bind_some hk; obtain ⟨B,hB,hk⟩:=hk
    exact (convK_tells hP h hA hB hk).wp (by simp [execOp,ho]) h hd hn
  case makeFunc F first caps =>
    cases F <;> simp only at hk <;> (try (cases hk; done))
    case func f =>
      split at hk
      · rename_i alts ts hty
        exact (makeClo_does h hk).wp (by simp [execOp,ho,Instr.makeFunc]) hd hn
      replace hk:=cond_some hk; obtain ⟨hf,hk⟩:=hk
      have hfe:first=#[]:=by simpa using hf
      subst hfe
      cases hce:caps.isEmpty with
      | true =>
        rw [hce,cond_true] at hk
        have hcz:caps=#[]:=by simpa using hce
        subst hcz
        rw [tell_some hk] at hn
        exact wp_tell (e:=.val .fn none (.fn f)) (v:=.func (.func f) #[] #[]) h (by simp [execOp,ho,Instr.makeFunc]) (.plain ⟨[.func (.func f) #[] #[]],(val_one rfl _).symm,f,rfl,rfl⟩) hd hn
      | false =>
        rw [hce,cond_false] at hk
        replace hk:=bind_some hk; obtain ⟨l,hl,hk⟩:=hk
        rw [tell_some hk] at hn
        obtain ⟨h1,h2⟩:=capsE_some _ _ hl
        refine wp_tell (e:=.clo f l) (v:=.func (.func f) #[] (caps.map a.eval)) h (by simp [execOp,ho,Instr.makeFunc]) ⟨caps.toList.map a.eval,by rw [map_toArr],by simp [h1],fun i p u e1 e2=>?_⟩ hd hn
        rw [List.getElem?_map] at e2
        obtain ⟨x,hx,rfl⟩:=Option.map_eq_some_iff.1 e2
        have hv:=h.ope x
        rw [h2 i p x e1 hx] at hv
        exact hv
  case makeSlice t x y =>
    replace hk:=bind_some hk; obtain ⟨T,ht,hk⟩:=hk
    replace hk:=bind_some hk; obtain ⟨b,hb,hk⟩:=hk
    replace hk:=cond_some hk; obtain ⟨hf,hk⟩:=hk
    cases hm:memN t G.made with
    | true =>
      rw [hm,cond_true] at hk
      exact (makeValK_does hP h ht hb hf hd hk).wp (by simp [execOp,ho]) hd hn
    | false =>
      rw [hm,cond_false] at hk
      exact (makeK_does hP h ht hb hf hd hk).wp (by simp [execOp,ho]) hd hn
  case slice t x lo hi mx =>
    replace hk:=bind_some hk; obtain ⟨T,ht,hk⟩:=hk
    exact (sliceK_tells hP h ht hk).wp (by simp [execOp,ho]) h hd hn
  case fieldAddr t x i =>
    replace hk:=bind_some hk; obtain ⟨T,ht,hk⟩:=hk
    exact (fieldAddrK_tells hP h ht hk).wp (by simp [execOp,ho]) h hd hn
  case field t x i =>
    replace hk:=bind_some hk; obtain ⟨T,ht,hk⟩:=hk
    unfold fieldK at hk
    split at hk
    · split at hk
      · rename_i fs F hF
        replace hk:=bind_some hk; obtain ⟨u,hu,hk⟩:=hk
        rw [tell_some hk] at hn
        exact (fieldK_tells hP h ht hF hu).wp (by simp [execOp,ho]) h hd hn
      · cases hk
    · cases hk
  case indexAddr t x ix =>
    replace hk:=bind_some hk; obtain ⟨T,ht,hk⟩:=hk
    replace hk:=bind_some hk; obtain ⟨i,hi,hk⟩:=hk
    exact (indexAddrK_tells hP h ht hi hk).wp (by simp [execOp,ho]) h hd hn
  case index t x ix =>
    replace hk:=bind_some hk; obtain ⟨T,ht,hk⟩:=hk
    replace hk:=bind_some hk; obtain ⟨i,hi,hk⟩:=hk
    replace hk:=bind_some hk; obtain ⟨u,hu,hk⟩:=hk
    exact (indexK_tells hP h ht hi hu hk).wp (by simp [execOp,ho]) h hd hn
  case extract x i =>
    unfold extractK at hk
    split at hk
    · rename_i l hx
      have hv:=h.ope x
      rw [hx] at hv
      obtain ⟨vs,h1,h2,h3⟩:=hv
      split at hk
      · rename_i b hb
        rw [tell_some hk] at hn
        obtain ⟨T,y⟩:=b
        have hlt:=(List.getElem?_eq_some_iff.1 hb).1
        have hvi:vs[i]?=some (vs[i]'(by omega)):=List.getElem?_eq_getElem (by omega)
        refine wp_tell (v:=vs[i]'(by omega)) h ?_ (.plain (h3 i T y _ hb hvi)) hd hn
        simp [execOp,ho,h1,Instr.extract,hvi]
      · cases hk
    · cases hk
  case call cl =>
    cases hcl:cl.callee <;> simp only [hcl] at hk <;> (try (cases hk; done))
    case value F =>
      cases F <;> simp only at hk <;> (try (cases hk; done))
      case tmp t =>
        split at hk
        · rename_i g f hx
          have hv:=h.tmps t
          rw [hx] at hv
          obtain ⟨f',hf',hff⟩:=hv.1.fn
          cases hff
          refine callK_wp hF h (cvs:=[]) ?_ rfl (by simp) hd hk hn
          have this:a.eval (.tmp t)=.func (.func f) #[] #[]:=hf'
          rw [map_toArr]
          simp [execOp,ho,resolve,hcl,this,Deferred.ofValue,invoke]
        · rename_i f caps hx
          have hv:=h.tmps t
          rw [hx] at hv
          obtain ⟨vs,h1,h2,h3⟩:=hv
          refine callK_wp hF h (cvs:=vs) ?_ h2 h3 hd hk hn
          have this:a.eval (.tmp t)=.func (.func f) #[] vs.toArray:=h1
          rw [map_toArr]
          simp [execOp,ho,resolve,hcl,this,Deferred.ofValue,invoke]
        · rename_i alts ts g x hx
          have hv:=h.tmps t
          rw [hx] at hv
          rcases hv.1.clo with ⟨_,e2⟩ | ⟨f,fs,cp,vs,us,xs,e1,e2,e3,e4,e5,e6,e7⟩
          · exact (closK_nil e2 hk).elim
          · refine closK_wp hF h (vs:=vs) (us:=us) ?_ e2 e4 e5 e6 e7 hd hn alts e3 hk
            have this:a.eval (.tmp t)=.func (.func f) vs us:=e1
            rw [map_toArr]
            simp [execOp,ho,resolve,hcl,this,Deferred.ofValue,invoke]
        · cases hk
      case func f =>
        refine callK_wp hF h (cvs:=[]) ?_ rfl (by simp) hd hk hn
        rw [map_toArr]
        simp [execOp,ho,resolve,hcl,Act.eval,Deferred.ofValue,invoke]
    case builtin b =>
      have hrun:∀ m:Sem Value,(execOp a.eval o).run P w=(builtin b cl.argTypes o.type (cl.args.map fun | .const _=>true | _=>false) (cl.args.map a.eval)).run P w:=fun m=>by
        simp [execOp,ho,resolve,hcl,invoke]
        rfl
      unfold builtinK at hk
      split at hk
      · rename_i t x e1 e2
        replace hk:=bind_some hk; obtain ⟨T,ht,hk⟩:=hk
        have h1:cl.argTypes=#[t]:=by rw [← Array.toList_inj]; exact e1
        have h2:cl.args=#[x]:=by rw [← Array.toList_inj]; exact e2
        exact (lenK_tells (rt:=o.type) hP h ht hk).wp (by rw [hrun (pure undef),h1,h2]; simp [builtin]) h hd hn
      · replace hk:=bind_some hk; obtain ⟨T,ht,hk⟩:=hk
        split at hk
        · replace hk:=bind_some hk; obtain ⟨l,hl,hk⟩:=hk
          replace hk:=bind_some hk; obtain ⟨r,hr,hk⟩:=hk
          rw [tell_some hk] at hn
          exact (maxK_tells (ts:=cl.argTypes) (rt:=o.type) h hl hr).wp (by rw [hrun (pure undef)]; simp [builtin]) h hd hn
        · cases hk
      · replace hk:=bind_some hk; obtain ⟨T,ht,hk⟩:=hk
        split at hk
        · replace hk:=bind_some hk; obtain ⟨l,hl,hk⟩:=hk
          replace hk:=bind_some hk; obtain ⟨r,hr,hk⟩:=hk
          rw [tell_some hk] at hn
          exact (minK_tells (ts:=cl.argTypes) (rt:=o.type) h hl hr).wp (by rw [hrun (pure undef)]; simp [builtin]) h hd hn
        · cases hk
      · rename_i t t' x y e1 e2
        replace hk:=bind_some hk; obtain ⟨T,ht,hk⟩:=hk
        replace hk:=bind_some hk; obtain ⟨by_,hby,hk⟩:=hk
        obtain ⟨htt,hk4⟩:=cond_some hk
        clear hk
        have:=Nat.eq_of_beq_eq_true htt
        subst this
        have h1:cl.argTypes=#[t,t]:=by rw [← Array.toList_inj]; exact e1
        have h2:cl.args=#[x,y]:=by rw [← Array.toList_inj]; exact e2
        cases T <;> simp only at hk4 <;> (try (cases hk4; done))
        case slice e=>exact (appendK_does (rt:=o.type) hP h ht hby hd hk4).wp (by rw [hrun (pure undef),h1,h2]; simp [builtin]) hd hn
      · rename_i t t' x y e1 e2
        replace hk:=bind_some hk; obtain ⟨T,ht,hk⟩:=hk
        replace hk:=bind_some hk; obtain ⟨S,ht',hk⟩:=hk
        have h1:cl.argTypes=#[t,t']:=by rw [← Array.toList_inj]; exact e1
        have h2:cl.args=#[x,y]:=by rw [← Array.toList_inj]; exact e2
        exact (copyK_does (rt:=o.type) hP h ht ht' hk).wp (by rw [hrun (pure undef),h1,h2]; simp [builtin]) hd hn
      · cases hk
end Go.Proofs.YtlkkebfjmbfgpaaGreatDoor.Ev

