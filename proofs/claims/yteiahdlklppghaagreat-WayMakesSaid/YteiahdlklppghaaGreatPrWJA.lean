import Derived.RangeFuncBox
import Derived.RangeFuncBound
import Derived.RangeFuncLeaves
import Derived.RangeFuncFrom
import Derived.Shelf.Abstract
import Derived.Shelf.RegionOpen
import Derived.WalkKit
import Derived.OwnWalkIn
import Derived.TacticsInMore
import Derived.LoopNIn
import Derived.LoopIn
import Derived.Maps.AppendAt
import Derived.Test.YteiahdlklppghaaGreatProg
import Derived.Shelf.Slices.Reverse
import Derived.Deep.LoopGhost
import Derived.CellFam
import Derived.Laws.MakeOwn
import Derived.Sort.Row
import Derived.Test.YteiahdlklppghaaGreatPrWEvT1
import Derived.Test.YteiahdlklppghaaGreatPrWEvT2
import Derived.Test.YteiahdlklppghaaGreatPrWEvT3
import Derived.Test.YteiahdlklppghaaGreatPrWEvFA
import Derived.Test.YteiahdlklppghaaGreatPrWEvExt
import Derived.Test.YteiahdlklppghaaGreatPrWEvFB
import Derived.Test.YteiahdlklppghaaGreatPrWEvFC
import Derived.Test.YteiahdlklppghaaGreatPrWEvFD
import Derived.Test.YteiahdlklppghaaGreatPrWEvFE
import Derived.Test.YteiahdlklppghaaGreatPrWEvFF
import Derived.Test.YteiahdlklppghaaGreatPrWEvFG
import Derived.Test.YteiahdlklppghaaGreatPrWEvFZ
import Derived.Test.YteiahdlklppghaaGreatPrWShelf
namespace Go.Proofs.YteiahdlklppghaaGreat.Ev
open Go Go.RowKit
def byteAt (b:List UInt8) (i:Nat):BitVec 64:=BitVec.ofNat 64 (b.getD i 0).toNat
theorem byteAt_U (b:List UInt8) (i:Nat):((b.getD i 0).toNat:Int)=U (byteAt b i):=by
  unfold byteAt U
  rw [BitVec.toNat_ofNat,Nat.mod_eq_of_lt]
  have:=(b.getD i 0).toNat_lt
  omega
theorem wrap_U64 (a:BitVec 64):IntKind.wrap .u64 (U a)=U a:=by rw [U64,ofInt_U]
theorem add_or (x y:BitVec 64) (h:y.toNat < 256):x <<< 8+y=(x <<< 8) ||| y:=by
  apply BitVec.add_eq_or_of_and_eq_zero
  apply BitVec.eq_of_getLsbD_eq
  intro i hi
  rw [BitVec.getLsbD_and,BitVec.getLsbD_shiftLeft]
  by_cases h8:i < 8
  · simp [h8]
  · have:y.getLsbD i=false:=by
      show y.toNat.testBit i=false
      refine Nat.testBit_lt_two_pow (Nat.lt_of_lt_of_le h ?_)
      calc 256=2^8:=rfl
        _≤2^i:=Nat.pow_le_pow_right (by omega) (by omega)
    rw [this]; simp
def tk (b:List UInt8) (at_:Nat):Nat→BitVec 64
  | 0=>0
  | i+1=>(tk b at_ i <<< 8) ||| byteAt b (at_+i)
theorem byteAt_out {b:List UInt8} {i:Nat} (h:b.length≤i):byteAt b i=0:=by
  unfold byteAt
  rw [List.getD_eq_getElem?_getD,List.getElem?_eq_none h]; rfl
theorem take_l0 (run:Run) (n:Nat) (b:List UInt8) (at_ size:Nat) (hb:b.length≤maxLen) (ha:at_≤1000000) (hs:size≤1000):∀ (j k i:Nat),i+j=size→j < k →
    f134_l0 run n k b (at_:Int) (U (tk b at_ i)) (size:Int) (i:Int)=some ⟨[.int (U (tk b at_ size))],[],false⟩:=by
  rw [maxLen_eq] at hb
  intro j
  induction j with
  | zero =>
    intro k i hi hk
    obtain ⟨k,rfl⟩:∃ j,k=j+1:=⟨k-1,by omega⟩
    rw [Nat.add_zero] at hi
    rw [f134_l0_eq,ltI_f (by omega),hi]; rfl
  | succ j ih =>
    intro k i hi hk
    obtain ⟨k,rfl⟩:∃ j,k=j+1:=⟨k-1,by omega⟩
    have ih':=ih k (i+1) (by omega) (by omega)
    rw [show ((i+1:Nat):Int)=(i:Int)+1 by omega] at ih'
    rw [f134_l0_eq,ltI_t (by omega),leI_t (by omega),cond_true,cond_true,w64 (x:=(i:Int)+1) (by omega) (by omega),w64 (x:=(b.length:Int)-at_) (by omega) (by omega),w64 (x:=(at_:Int)+i) (by omega) (by omega),u64_shl]
    by_cases h1:at_+i < b.length
    · rw [ltI_t (by omega),ltI_t (by omega),inR_yes (by omega) (by omega),show ((at_:Int)+i).toNat=at_+i by omega,byteAt_U,wrap_U64,u64_or]
      exact ih'
    · have e:tk b at_ (i+1)=tk b at_ i <<< 8:=by simp only [tk]; rw [byteAt_out (by omega)]; simp
      rw [e] at ih'
      by_cases h2:at_ < b.length
      · rw [ltI_t (by omega),ltI_f (by omega)]; exact ih'
      · rw [ltI_f (by omega)]; exact ih'
theorem refTake_l0 (run:Run) (n:Nat) (b:List UInt8) (at_ size:Nat) (hb:b.length≤maxLen) (ha:at_≤1000000) (hs:size≤1000):∀ (j k i:Nat),i+j=size→j < k →
    f163_l0 run n k b (at_:Int) (size:Int) (U (tk b at_ i)) (i:Int)=some ⟨[.int (U (tk b at_ size))],[],false⟩:=by
  rw [maxLen_eq] at hb
  intro j
  induction j with
  | zero =>
    intro k i hi hk
    obtain ⟨k,rfl⟩:∃ j,k=j+1:=⟨k-1,by omega⟩
    rw [Nat.add_zero] at hi
    rw [f163_l0_eq,ltI_f (by omega),hi]; rfl
  | succ j ih =>
    intro k i hi hk
    obtain ⟨k,rfl⟩:∃ j,k=j+1:=⟨k-1,by omega⟩
    have ih':=ih k (i+1) (by omega) (by omega)
    rw [show ((i+1:Nat):Int)=(i:Int)+1 by omega] at ih'
    have e0:U (tk b at_ i)*256=U (tk b at_ i)*2^8:=by rw [show (2:Int)^8=256 from rfl]
    rw [f163_l0_eq,ltI_t (by omega),leI_t (by omega),cond_true,cond_true,w64 (x:=(i:Int)+1) (by omega) (by omega),w64 (x:=(b.length:Int)-at_) (by omega) (by omega),w64 (x:=(at_:Int)+i) (by omega) (by omega),e0,u64_shl]
    by_cases h1:at_+i < b.length
    · have hlt:(byteAt b (at_+i)).toNat < 256:=by
        unfold byteAt
        rw [BitVec.toNat_ofNat]
        have:=(b.getD (at_+i) 0).toNat_lt
        omega
      rw [ltI_t (by omega),ltI_t (by omega),inR_yes (by omega) (by omega),show ((at_:Int)+i).toNat=at_+i by omega,byteAt_U,wrap_U64,u64_add,add_or _ _ hlt]
      exact ih'
    · have e:tk b at_ (i+1)=tk b at_ i <<< 8:=by simp only [tk]; rw [byteAt_out (by omega)]; simp
      rw [e] at ih'
      by_cases h2:at_ < b.length
      · rw [ltI_t (by omega),ltI_f (by omega)]; exact ih'
      · rw [ltI_f (by omega)]; exact ih'
def tk32 (b:List UInt8) (at_:Nat):BitVec 32:=(tk b at_ 4).setWidth 32
theorem tk32_U (b:List UInt8) (at_:Nat):IntKind.wrap .u32 (U (tk b at_ 4))=U (tk32 b at_):=by
  rw [wrap32]; unfold tk32 U; rw [BitVec.toNat_setWidth]; omega
theorem take_at (n:Nat) (hn:2000≤n) {b:List UInt8} (hb:b.length≤maxLen) {at_ size:Nat} (ha:at_≤1000000) (hs:size≤1000):runE G ext (n+1) 134 [.str b,.int at_,.int size]=some ⟨[.int (U (tk b at_ size))],[],false⟩:=by
  rw [f134_run,f134_eq]
  exact take_l0 _ _ b at_ size hb ha hs size n 0 (by omega) (by omega)
theorem refTake_at (n:Nat) (hn:2000≤n) {b:List UInt8} (hb:b.length≤maxLen) {at_ size:Nat} (ha:at_≤1000000) (hs:size≤1000):runE G ext (n+1) 163 [.str b,.int at_,.int size]=some ⟨[.int (U (tk b at_ size))],[],false⟩:=by
  rw [f163_run,f163_eq]
  exact refTake_l0 _ _ b at_ size hb ha hs size n 0 (by omega) (by omega)
theorem take32_at (n:Nat) (hn:2000≤n) {b:List UInt8} (hb:b.length≤maxLen) {at_:Nat} (ha:at_≤1000000):runE G ext (n+2) 188 [.str b,.int at_]=some ⟨[.int (U (tk32 b at_))],[],false⟩:=by
  rw [f188_run,f188_eq,show ((4:Int))=((4:Nat):Int) from rfl,take_at n hn hb ha (by omega)]
  simp only [bind_run,consV_c,nilV_n,toInt_i]
  rw [tk32_U]; rfl
def rotV (x:BitVec 32) (k:Nat):BitVec 32:=(x >>> k) ||| (x <<< (32-k))
theorem wu64' {x:Int} (h1:0≤x) (h2:x < 18446744073709551616):IntKind.wrap .u64 x=x:=by rw [wrap64]; omega
theorem k31:∀ k:Nat,k < 32→IntKind.wrap .u64 (BitVec.toNat (BitVec.ofInt 64 (IntKind.wrap .u64 (k:Int)) &&& BitVec.ofInt 64 31))=(k:Int):=by decide +kernel
theorem rot_at (n:Nat) (x:BitVec 32) {k:Nat} (hk:k < 32):runE G ext (n+1) 179 [.int (U x),.int (k:Int)]=some ⟨[.int (U (rotV x k))],[],false⟩:=by
  rw [f179_run,f179_eq,k31 k hk,wu64' (by omega) (by omega),leI_t (by omega),leI_t (by omega),Int.toNat_natCast,show min k 32=k by omega,show min ((32:Int)-k).toNat 32=32-k by omega,u32_shl,U_shr,u32_or]
  rfl
theorem turn_or (x:BitVec 32) {k:Nat} (hk:k < 32):x >>> k+x <<< (32-k)=rotV x k:=by
  unfold rotV
  apply BitVec.add_eq_or_of_and_eq_zero
  apply BitVec.eq_of_getLsbD_eq
  intro i hi
  rw [BitVec.getLsbD_and,BitVec.getLsbD_shiftLeft,BitVec.getLsbD_ushiftRight]
  by_cases h:i < 32-k
  · simp [h]
  · have:x.getLsbD (k+i)=false:=BitVec.getLsbD_of_ge _ _ (by omega)
    rw [this]; simp
theorem turn_at (n:Nat) (x:BitVec 32) {k:Nat} (hk:k < 32):runE G ext (n+1) 143 [.int (U x),.int (k:Int)]=some ⟨[.int (U (rotV x k))],[],false⟩:=by
  rw [f143_run,f143_eq,wu64' (by omega) (by omega),leI_t (by omega),leI_t (by omega),Int.toNat_natCast,show min k 32=k by omega,show min ((32:Int)-k).toNat 32=32-k by omega,u32_shl,U_shr,u32_add,turn_or x hk]
  rfl
def A (l:List (BitVec 32)):List AV:=l.map fun b=>.int (U b)
theorem A_len (l:List (BitVec 32)):(A l).length=l.length:=by simp [A]
theorem fldA {l:List (BitVec 32)} {r:List AV} {i:Nat} (h:i < l.length):(AV.fld (.agg (A l++r)) i).toInt=U (l.getD i 0):=by
  show (nth (A l++r) i).toInt=_
  unfold nth
  rw [List.getD_eq_getElem?_getD,List.getElem?_append_left (by rw [A_len]; exact h)]
  simp [A,h,AV.toInt]
theorem setA {l:List (BitVec 32)} {m:Nat} (w:BitVec 32):(A l++List.replicate (m+1) (AV.int 0)).set l.length (.int (U w))=A (l++[w])++List.replicate m (.int 0):=by
  rw [List.set_append_right _ _ (by rw [A_len]; exact Nat.le_refl _),A_len,Nat.sub_self,List.replicate_succ,List.set_cons_zero]
  simp [A]
def sg0 (x:BitVec 32):BitVec 32:=(rotV x 7 ^^^ rotV x 18) ^^^ (x >>> 3)
def sg1 (x:BitVec 32):BitVec 32:=(rotV x 17 ^^^ rotV x 19) ^^^ (x >>> 10)
def wordV (b:List UInt8) (l:List (BitVec 32)) (i:Nat):BitVec 32 :=
  if i < 16 then tk32 b (4*i) else l.getD (i-16) 0+sg0 (l.getD (i-15) 0)+l.getD (i-7) 0+sg1 (l.getD (i-2) 0)
def sp (b:List UInt8):Nat→List (BitVec 32)
  | 0=>[]
  | i+1=>sp b i++[wordV b (sp b i) i]
theorem sp_len (b:List UInt8):∀ i,(sp b i).length=i
  | 0=>rfl
  | i+1=>by simp [sp,sp_len b i]
theorem spread_l0 (m n:Nat) (hm:2000≤m) (b:List UInt8) (hb:b.length≤maxLen) (o:List AV):∀ (j k i:Nat),i+j=64→j < k →
    f177_l0 (runE G ext (m+2)) n k b (i:Int) o (A (sp b i)++List.replicate (64-i) (.int 0))=some ⟨[.agg (A (sp b 64))],[],false⟩:=by
  intro j
  induction j with
  | zero =>
    intro k i hi hk
    obtain ⟨k,rfl⟩:∃ j,k=j+1:=⟨k-1,by omega⟩
    rw [Nat.add_zero] at hi
    subst hi
    rw [f177_l0_eq,ltI_f (by omega),Nat.sub_self,List.replicate_zero,List.append_nil]; rfl
  | succ j ih =>
    intro k i hi hk
    obtain ⟨k,rfl⟩:∃ j,k=j+1:=⟨k-1,by omega⟩
    have ih':=ih k (i+1) (by omega) (by omega)
    rw [show ((i+1:Nat):Int)=(i:Int)+1 by omega] at ih'
    have hs:=setA (l:=sp b i) (m:=64-(i+1)) (wordV b (sp b i) i)
    rw [sp_len,show 64-(i+1)+1=64-i by omega] at hs
    rw [show sp b i++[wordV b (sp b i) i]=sp b (i+1) from rfl] at hs
    rw [← hs] at ih'
    rw [f177_l0_eq,ltI_t (by omega),cond_true,w64 (x:=(i:Int)+1) (by omega) (by omega)]
    by_cases h:i < 16
    · rw [ltI_t (by omega),cond_true,w64 (x:=4*(i:Int)) (by omega) (by omega),show 4*(i:Int)=((4*i:Nat):Int) by omega,take32_at m hm hb (by omega)]
      simp only [bind_run,consV_c,nilV_n,toInt_i]
      rw [inR_nat (by omega),cond_true,Int.toNat_natCast,show tk32 b (4*i)=wordV b (sp b i) i by simp [wordV,h]]
      exact ih'
    · have hw:wordV b (sp b i) i=(sp b i).getD (i-16) 0+sg0 ((sp b i).getD (i-15) 0)+(sp b i).getD (i-7) 0+sg1 ((sp b i).getD (i-2) 0):=by simp [wordV,h]
      have f1:=fldA (l:=sp b i) (r:=List.replicate (64-i) (.int 0)) (i:=i-15) (by rw [sp_len]; omega)
      have f2:=fldA (l:=sp b i) (r:=List.replicate (64-i) (.int 0)) (i:=i-2) (by rw [sp_len]; omega)
      have f3:=fldA (l:=sp b i) (r:=List.replicate (64-i) (.int 0)) (i:=i-16) (by rw [sp_len]; omega)
      have f4:=fldA (l:=sp b i) (r:=List.replicate (64-i) (.int 0)) (i:=i-7) (by rw [sp_len]; omega)
      rw [ltI_f (by omega),cond_false,w64 (x:=(i:Int)-15) (by omega) (by omega),w64 (x:=(i:Int)-2) (by omega) (by omega),w64 (x:=(i:Int)-16) (by omega) (by omega),w64 (x:=(i:Int)-7) (by omega) (by omega),
        show ((i:Int)-15).toNat=i-15 by omega,show ((i:Int)-2).toNat=i-2 by omega,show ((i:Int)-16).toNat=i-16 by omega,show ((i:Int)-7).toNat=i-7 by omega,f1,f2,f3,f4,
        show (7:Int)=((7:Nat):Int) from rfl,show (18:Int)=((18:Nat):Int) from rfl,show (17:Int)=((17:Nat):Int) from rfl,show (19:Int)=((19:Nat):Int) from rfl,
        rot_at (m+1) _ (by omega),rot_at (m+1) _ (by omega),rot_at (m+1) _ (by omega),rot_at (m+1) _ (by omega)]
      simp only [bind_run,consV_c,nilV_n,toInt_i]
      rw [inR_yes (i:=(i:Int)-15) (by omega) (by omega),inR_yes (i:=(i:Int)-2) (by omega) (by omega),inR_yes (i:=(i:Int)-16) (by omega) (by omega),inR_yes (i:=(i:Int)-((7:Nat):Int)) (by omega) (by omega),inR_nat (by omega),Int.toNat_natCast]
      simp only [cond_true,U_shr,u32_xor,u32_add]
      rw [hw] at ih'
      exact ih'
theorem spread_at (m:Nat) (hm:2000≤m) {b:List UInt8} (hb:b.length≤maxLen):runE G ext (m+3) 177 [.str b]=some ⟨[.agg (A (sp b 64))],[],false⟩:=by
  rw [f177_run,f177_eq]
  exact spread_l0 m _ hm b hb _ 64 _ 0 (by omega) (by omega)
end Go.Proofs.YteiahdlklppghaaGreat.Ev
namespace Go.Proofs.YteiahdlklppghaaGreat.Ev
open Go Go.RowKit
theorem refSpread_l2 (m n k0:Nat) (b:List UInt8) (o:List AV):∀ (j k i:Nat),i+j=64→16≤i→j < k →
    f142_l2 (runE G ext (m+2)) n k0 k (i:Int) o (A (sp b i)++List.replicate (64-i) (.int 0))=some ⟨[.agg (A (sp b 64))],[],false⟩:=by
  intro j
  induction j with
  | zero =>
    intro k i hi _ hk
    obtain ⟨k,rfl⟩:∃ j,k=j+1:=⟨k-1,by omega⟩
    rw [Nat.add_zero] at hi
    subst hi
    rw [f142_l2_eq,ltI_f (by omega),Nat.sub_self,List.replicate_zero,List.append_nil]; rfl
  | succ j ih =>
    intro k i hi h16 hk
    obtain ⟨k,rfl⟩:∃ j,k=j+1:=⟨k-1,by omega⟩
    have ih':=ih k (i+1) (by omega) (by omega) (by omega)
    rw [show ((i+1:Nat):Int)=(i:Int)+1 by omega] at ih'
    have hs:=setA (l:=sp b i) (m:=64-(i+1)) (wordV b (sp b i) i)
    rw [sp_len,show 64-(i+1)+1=64-i by omega,show sp b i++[wordV b (sp b i) i]=sp b (i+1) from rfl] at hs
    rw [← hs] at ih'
    have h:¬ i < 16:=by omega
    have hw:wordV b (sp b i) i=(sp b i).getD (i-16) 0+sg0 ((sp b i).getD (i-15) 0)+(sp b i).getD (i-7) 0+sg1 ((sp b i).getD (i-2) 0):=by simp [wordV,h]
    have f1:=fldA (l:=sp b i) (r:=List.replicate (64-i) (.int 0)) (i:=i-15) (by rw [sp_len]; omega)
    have f2:=fldA (l:=sp b i) (r:=List.replicate (64-i) (.int 0)) (i:=i-2) (by rw [sp_len]; omega)
    have f3:=fldA (l:=sp b i) (r:=List.replicate (64-i) (.int 0)) (i:=i-16) (by rw [sp_len]; omega)
    have f4:=fldA (l:=sp b i) (r:=List.replicate (64-i) (.int 0)) (i:=i-7) (by rw [sp_len]; omega)
    have r1:∀ x,runE G ext (m+1+1) 143 [.int (U x),.int 7]=some ⟨[.int (U (rotV x 7))],[],false⟩:=fun x=>turn_at (m+1) x (k:=7) (by omega)
    have r2:∀ x,runE G ext (m+1+1) 143 [.int (U x),.int 18]=some ⟨[.int (U (rotV x 18))],[],false⟩:=fun x=>turn_at (m+1) x (k:=18) (by omega)
    have r3:∀ x,runE G ext (m+1+1) 143 [.int (U x),.int 17]=some ⟨[.int (U (rotV x 17))],[],false⟩:=fun x=>turn_at (m+1) x (k:=17) (by omega)
    have r4:∀ x,runE G ext (m+1+1) 143 [.int (U x),.int 19]=some ⟨[.int (U (rotV x 19))],[],false⟩:=fun x=>turn_at (m+1) x (k:=19) (by omega)
    rw [f142_l2_eq,ltI_t (by omega),cond_true,w64 (x:=(i:Int)+1) (by omega) (by omega),w64 (x:=(i:Int)-15) (by omega) (by omega),w64 (x:=(i:Int)-2) (by omega) (by omega),w64 (x:=(i:Int)-16) (by omega) (by omega),w64 (x:=(i:Int)-7) (by omega) (by omega),
      show ((i:Int)-15).toNat=i-15 by omega,show ((i:Int)-2).toNat=i-2 by omega,show ((i:Int)-16).toNat=i-16 by omega,show ((i:Int)-7).toNat=i-7 by omega,f1,f2,f3,f4,r1,r2,r3,r4]
    simp only [bind_run,consV_c,nilV_n,toInt_i]
    rw [inR_yes (i:=(i:Int)-15) (by omega) (by omega),inR_yes (i:=(i:Int)-2) (by omega) (by omega),inR_yes (i:=(i:Int)-16) (by omega) (by omega),inR_yes (i:=(i:Int)-7) (by omega) (by omega),inR_nat (by omega),Int.toNat_natCast]
    simp only [cond_true,U_shr,u32_xor,u32_add]
    rw [hw] at ih'
    exact ih'
theorem refSpread_l0 (m n:Nat) (hm:2000≤m) (hn:100≤n) (b:List UInt8) (hb:b.length≤maxLen) (o:List AV):∀ (j k i:Nat),i+j=16→j < k →
    f142_l0 (runE G ext (m+2)) n k b (i:Int) o (A (sp b i)++List.replicate (64-i) (.int 0))=some ⟨[.agg (A (sp b 64))],[],false⟩:=by
  intro j
  induction j with
  | zero =>
    intro k i hi hk
    obtain ⟨k,rfl⟩:∃ j,k=j+1:=⟨k-1,by omega⟩
    rw [Nat.add_zero] at hi
    subst hi
    rw [f142_l0_eq,ltI_f (by omega),cond_false]
    exact refSpread_l2 m n k b o 48 n 16 (by omega) (by omega) (by omega)
  | succ j ih =>
    intro k i hi hk
    obtain ⟨k,rfl⟩:∃ j,k=j+1:=⟨k-1,by omega⟩
    have ih':=ih k (i+1) (by omega) (by omega)
    rw [show ((i+1:Nat):Int)=(i:Int)+1 by omega] at ih'
    have hs:=setA (l:=sp b i) (m:=64-(i+1)) (wordV b (sp b i) i)
    rw [sp_len,show 64-(i+1)+1=64-i by omega,show sp b i++[wordV b (sp b i) i]=sp b (i+1) from rfl] at hs
    rw [← hs] at ih'
    have h:i < 16:=by omega
    have ht:runE G ext (m+1+1) 163 [.str b,.int ((4*i:Nat):Int),.int 4]=some ⟨[.int (U (tk b (4*i) 4))],[],false⟩:=refTake_at (m+1) (by omega) hb (size:=4) (by omega) (by omega)
    rw [f142_l0_eq,ltI_t (by omega),cond_true,w64 (x:=(i:Int)+1) (by omega) (by omega),w64 (x:=4*(i:Int)) (by omega) (by omega),show 4*(i:Int)=((4*i:Nat):Int) by omega,ht]
    simp only [bind_run,consV_c,nilV_n,toInt_i]
    rw [inR_nat (by omega),cond_true,Int.toNat_natCast,tk32_U,show tk32 b (4*i)=wordV b (sp b i) i by simp [wordV,h]]
    exact ih'
theorem refSpread_at (m:Nat) (hm:2000≤m) {b:List UInt8} (hb:b.length≤maxLen):runE G ext (m+3) 142 [.str b]=some ⟨[.agg (A (sp b 64))],[],false⟩:=by
  rw [f142_run,f142_eq]
  exact refSpread_l0 m _ hm (by omega) b hb _ 16 _ 0 (by omega) (by omega)
def klN:List Int:=[1116352408,1899447441,3049323471,3921009573,961987163,1508970993,2453635748,2870763221,3624381080,310598401,607225278,1426881987,1925078388,2162078206,2614888103,3248222580,3835390401,4022224774,264347078,604807628,770255983,1249150122,1555081692,1996064986,2554220882,2821834349,2952996808,3210313671,3336571891,3584528711,113926993,338241895,666307205,773529912,1294757372,1396182291,1695183700,1986661051,2177026350,2456956037,2730485921,2820302411,3259730800,3345764771,3516065817,3600352804,4094571909,275423344,430227734,506948616,659060556,883997877,958139571,1322822218,1537002063,1747873779,1955562222,2024104815,2227730452,2361852424,2428436474,2756734187,3204031479,3329325298]
def kl:List (BitVec 32):=klN.map (BitVec.ofInt 32)
theorem kl_A:A kl=klN.map AV.int:=by kernel_rfl
theorem kl_len:kl.length=64:=rfl
def rnd (k w:BitVec 32):List (BitVec 32)→List (BitVec 32)
  | [a,b,c,d,e,f,g,h] =>
    [h+((rotV e 6 ^^^ rotV e 11) ^^^ rotV e 25)+((e &&& f) ^^^ (~~~e &&& g))+k+w+((rotV a 2 ^^^ rotV a 13) ^^^ rotV a 22)+(((a &&& b) ^^^ (a &&& c)) ^^^ (b &&& c)),a,b,c,
      d+(h+((rotV e 6 ^^^ rotV e 11) ^^^ rotV e 25)+((e &&& f) ^^^ (~~~e &&& g))+k+w),e,f,g]
  | l=>l
def rds (w:List (BitVec 32)):Nat→Nat→List (BitVec 32)→List (BitVec 32)
  | 0,_,s=>s
  | j+1,i,s=>rds w j (i+1) (rnd (kl.getD i 0) (w.getD i 0) s)
theorem len8 {α:Type} {s:List α} (h:s.length=8):∃ a b c d e f g i,s=[a,b,c,d,e,f,g,i]:=by
  match s,h with
  | [a,b,c,d,e,f,g,i],_=>exact ⟨a,b,c,d,e,f,g,i,rfl⟩
theorem rnd_len (k w:BitVec 32) {s:List (BitVec 32)} (h:s.length=8):(rnd k w s).length=8:=by
  obtain ⟨a,b,c,d,e,f,g,i,rfl⟩:=len8 h; rfl
theorem fldA' {l:List (BitVec 32)} {i:Nat} (h:i < l.length):(AV.fld (.agg (A l)) i).toInt=U (l.getD i 0):=by
  have:=fldA (l:=l) (r:=[]) h
  rwa [List.append_nil] at this
def addN (i:Nat) (h v:List (BitVec 32)):List (BitVec 32):=(List.range 8).map fun j=>if j < i then h.getD j 0+v.getD j 0 else h.getD j 0
theorem addN_len (i:Nat) (h v:List (BitVec 32)):(addN i h v).length=8:=by simp [addN]
theorem addN_zero {h:List (BitVec 32)} (v:List (BitVec 32)) (hl:h.length=8):addN 0 h v=h:=by
  apply List.ext_getElem
  · simp [addN,hl]
  · intro j h1 h2; simp [addN,h2]
theorem addN_get {i:Nat} (h v:List (BitVec 32)) (hi:i < 8):(addN i h v).getD i 0=h.getD i 0:=by
  simp [addN,hi]
theorem addN_set {i:Nat} (h v:List (BitVec 32)) (_hi:i < 8):(A (addN i h v)).set i (.int (U (h.getD i 0+v.getD i 0)))=A (addN (i+1) h v):=by
  apply List.ext_getElem
  · simp [A,addN]
  · intro j h1 h2
    have hj:j < 8:=by simpa [A,addN] using h2
    rw [List.getElem_set]
    by_cases e:i=j
    · subst e
      simp [A,addN]
    · rw [if_neg e]
      by_cases hji:j < i
      · simp [A,addN,hji,show j < i+1 by omega]
      · simp [A,addN,hji,show ¬ j < i+1 by omega]
theorem mix_l2 (run:Run) (n k0:Nat) (h v:List (BitVec 32)) (hv:v.length=8) (o:List AV):∀ (j k i:Nat),i+j=8→j < k →
    f170_l2 run n k0 k (i:Int) (A (addN i h v)) o (A v)=some ⟨[.agg (A (addN 8 h v))],[],false⟩:=by
  intro j
  induction j with
  | zero =>
    intro k i hi hk
    obtain ⟨k,rfl⟩:∃ j,k=j+1:=⟨k-1,by omega⟩
    rw [Nat.add_zero] at hi
    subst hi
    rw [f170_l2_eq,ltI_f (by omega)]; rfl
  | succ j ih =>
    intro k i hi hk
    obtain ⟨k,rfl⟩:∃ j,k=j+1:=⟨k-1,by omega⟩
    have ih':=ih k (i+1) (by omega) (by omega)
    rw [show ((i+1:Nat):Int)=(i:Int)+1 by omega,← addN_set h v (by omega)] at ih'
    rw [f170_l2_eq,ltI_t (by omega),inR_nat (by omega),w64 (x:=(i:Int)+1) (by omega) (by omega),Int.toNat_natCast,fldA' (by rw [addN_len]; omega),fldA' (by omega),addN_get h v (by omega),u32_add]
    exact ih'
theorem refMix_l4 (run:Run) (n k0:Nat) (h v:List (BitVec 32)) (hv:v.length=8) (o:List AV):∀ (j k i:Nat),i+j=8→j < k →
    f120_l4 run n k0 k (i:Int) (A (addN i h v)) o (A v)=some ⟨[.agg (A (addN 8 h v))],[],false⟩:=by
  intro j
  induction j with
  | zero =>
    intro k i hi hk
    obtain ⟨k,rfl⟩:∃ j,k=j+1:=⟨k-1,by omega⟩
    rw [Nat.add_zero] at hi
    subst hi
    rw [f120_l4_eq,ltI_f (by omega)]; rfl
  | succ j ih =>
    intro k i hi hk
    obtain ⟨k,rfl⟩:∃ j,k=j+1:=⟨k-1,by omega⟩
    have ih':=ih k (i+1) (by omega) (by omega)
    rw [show ((i+1:Nat):Int)=(i:Int)+1 by omega,← addN_set h v (by omega)] at ih'
    rw [f120_l4_eq,ltI_t (by omega),inR_nat (by omega),w64 (x:=(i:Int)+1) (by omega) (by omega),Int.toNat_natCast,fldA' (by rw [addN_len]; omega),fldA' (by omega),addN_get h v (by omega),u32_add]
    exact ih'
theorem u32_not (a:BitVec 32):IntKind.wrap .u32 (BitVec.toNat (BitVec.ofInt 32 4294967295 ^^^ BitVec.ofInt 32 (U a)))=U (~~~ a):=by
  rw [U32,ofInt_U,ofInt_toNat,show BitVec.ofInt 32 4294967295=BitVec.allOnes 32 from by decide +kernel,BitVec.allOnes_xor]
theorem u32_not' (a:BitVec 32):IntKind.wrap .u32 (4294967295-U a)=U (~~~ a):=by
  have h:=a.isLt
  rw [wrap32]; unfold U; rw [BitVec.toNat_not]; omega
theorem mix_l0 (m n:Nat) (hn:100≤n) (w h0:List (BitVec 32)) (hw:w.length=64) (hh:h0.length=8) (o4:List AV):∀ (j k i:Nat) (s:List (BitVec 32)),i+j=64→j < k→s.length=8 →
    f170_l0 (runE G ext (m+1)) n k (i:Int) (A h0) o4 (A w) (A kl) (A s)=some ⟨[.agg (A (addN 8 h0 (rds w j i s)))],[],false⟩:=by
  intro j
  induction j with
  | zero =>
    intro k i s hi hk hs
    obtain ⟨k,rfl⟩:∃ j,k=j+1:=⟨k-1,by omega⟩
    rw [f170_l0_eq,ltI_f (by omega),cond_false]
    have:=mix_l2 (runE G ext (m+1)) n k h0 s hs o4 8 n 0 (by omega) (by omega)
    rw [addN_zero _ hh] at this
    exact this
  | succ j ih =>
    intro k i s hi hk hs
    obtain ⟨k,rfl⟩:∃ j,k=j+1:=⟨k-1,by omega⟩
    have ih':=ih k (i+1) (rnd (kl.getD i 0) (w.getD i 0) s) (by omega) (by omega) (rnd_len _ _ hs)
    rw [show ((i+1:Nat):Int)=(i:Int)+1 by omega] at ih'
    have fk:=fldA' (l:=kl) (i:=i) (by rw [kl_len]; omega)
    have fw:=fldA' (l:=w) (i:=i) (by omega)
    obtain ⟨a,b,c,d,e,f,g,h,rfl⟩:=len8 hs
    have e0:(AV.fld (.agg (A [a,b,c,d,e,f,g,h])) 0).toInt=U a:=rfl
    have e1:(AV.fld (.agg (A [a,b,c,d,e,f,g,h])) 1).toInt=U b:=rfl
    have e2:(AV.fld (.agg (A [a,b,c,d,e,f,g,h])) 2).toInt=U c:=rfl
    have e3:(AV.fld (.agg (A [a,b,c,d,e,f,g,h])) 3).toInt=U d:=rfl
    have e4:(AV.fld (.agg (A [a,b,c,d,e,f,g,h])) 4).toInt=U e:=rfl
    have e5:(AV.fld (.agg (A [a,b,c,d,e,f,g,h])) 5).toInt=U f:=rfl
    have e6:(AV.fld (.agg (A [a,b,c,d,e,f,g,h])) 6).toInt=U g:=rfl
    have e7:(AV.fld (.agg (A [a,b,c,d,e,f,g,h])) 7).toInt=U h:=rfl
    have r1:runE G ext (m+1) 179 [.int (U e),.int 6]=some ⟨[.int (U (rotV e 6))],[],false⟩:=rot_at m e (k:=6) (by omega)
    have r2:runE G ext (m+1) 179 [.int (U e),.int 11]=some ⟨[.int (U (rotV e 11))],[],false⟩:=rot_at m e (k:=11) (by omega)
    have r3:runE G ext (m+1) 179 [.int (U e),.int 25]=some ⟨[.int (U (rotV e 25))],[],false⟩:=rot_at m e (k:=25) (by omega)
    have r4:runE G ext (m+1) 179 [.int (U a),.int 2]=some ⟨[.int (U (rotV a 2))],[],false⟩:=rot_at m a (k:=2) (by omega)
    have r5:runE G ext (m+1) 179 [.int (U a),.int 13]=some ⟨[.int (U (rotV a 13))],[],false⟩:=rot_at m a (k:=13) (by omega)
    have r6:runE G ext (m+1) 179 [.int (U a),.int 22]=some ⟨[.int (U (rotV a 22))],[],false⟩:=rot_at m a (k:=22) (by omega)
    rw [f170_l0_eq,ltI_t (by omega),cond_true,w64 (x:=(i:Int)+1) (by omega) (by omega),e0,e1,e2,e3,e4,e5,e6,e7,r1,r2,r3,r4,r5,r6,inR_nat (by omega),Int.toNat_natCast,fk,fw]
    simp only [bind_run,consV_c,nilV_n,toInt_i,cond_true,u32_not,u32_xor,u32_and,u32_add]
    exact ih'
def mixV (s:List (BitVec 32)) (b:List UInt8):List (BitVec 32):=addN 8 s (rds (sp b 64) 64 0 s)
theorem mixV_len (s:List (BitVec 32)) (b:List UInt8):(mixV s b).length=8:=addN_len _ _ _
theorem mix_at (m:Nat) (hm:2000≤m) {s:List (BitVec 32)} {b:List UInt8} (hs:s.length=8) (hb:b.length≤maxLen):runE G ext (m+4) 170 [.agg (A s),.str b]=some ⟨[.agg (A (mixV s b))],[],false⟩:=by
  have h2:runE G ext (m+3) 178 []=some ⟨[.agg (A kl)],[],false⟩:=by
    rw [f178_run,f178_eq,kl_A]; kernel_rfl
  rw [f170_run,f170_eq,spread_at m hm hb,bind_run,nilV_n,consV_c,nilV_n,h2,bind_run,nilV_n,consV_c,nilV_n,toAgg_a,toAgg_a]
  unfold mixV
  exact mix_l0 (m+2) (m+3) (by omega) (sp b 64) s (sp_len b 64) hs _ 64 (m+3) 0 s (by omega) (by omega) hs
def shiftN:Nat→List AV→List AV
  | 0,l=>l
  | i+1,l=>shiftN i (l.set (i+1) (.int (AV.fld (.agg l) i).toInt))
theorem refMix_l2 (run:Run) (n k0:Nat) (x7 x10 x11:Int) (o4 o5 o6:List AV):∀ (i k:Nat) (l:List AV),i < k→i≤7 →
    f120_l2 run n k0 k x7 x10 x11 (i:Int) l o4 o5 o6 =
      f120_l0 run n k0 (IntKind.wrap .i64 (x7+1)) (((shiftN i l).set 4 (.int (IntKind.wrap .u32 ((AV.fld (.agg (shiftN i l)) 4).toInt+x10)))).set 0 (.int (IntKind.wrap .u32 (x10+x11)))) o4 o5 o6:=by
  intro i
  induction i with
  | zero =>
    intro k l hk _
    obtain ⟨k,rfl⟩:∃ j,k=j+1:=⟨k-1,by omega⟩
    rw [f120_l2_eq,ltI_f (by omega)]; rfl
  | succ i ih =>
    intro k l hk h7
    obtain ⟨k,rfl⟩:∃ j,k=j+1:=⟨k-1,by omega⟩
    rw [f120_l2_eq,ltI_t (by omega),cond_true,w64 (x:=((i+1:Nat):Int)-1) (by omega) (by omega),show ((i+1:Nat):Int)-1=(i:Int) by omega,inR_nat (by omega),inR_nat (by omega),cond_true,cond_true,Int.toNat_natCast,Int.toNat_natCast,
      ih k (l.set (i+1) (.int (AV.fld (.agg l) i).toInt)) (by omega) (by omega)]
    simp only [shiftN]
theorem refMix_l0 (m n:Nat) (hn:100≤n) (w h0:List (BitVec 32)) (hw:w.length=64) (hh:h0.length=8) (o4:List AV):∀ (j k i:Nat) (s:List (BitVec 32)),i+j=64→j < k→s.length=8 →
    f120_l0 (runE G ext (m+1)) n k (i:Int) (A s) o4 (A w) (A h0)=some ⟨[.agg (A (addN 8 (rds w j i s) h0))],[],false⟩:=by
  intro j
  induction j with
  | zero =>
    intro k i s hi hk hs
    obtain ⟨k,rfl⟩:∃ j,k=j+1:=⟨k-1,by omega⟩
    rw [f120_l0_eq,ltI_f (by omega),cond_false]
    have:=refMix_l4 (runE G ext (m+1)) n k s h0 hh o4 8 n 0 (by omega) (by omega)
    rw [addN_zero _ hs] at this
    exact this
  | succ j ih =>
    intro k i s hi hk hs
    obtain ⟨k,rfl⟩:∃ j,k=j+1:=⟨k-1,by omega⟩
    have ih':=ih k (i+1) (rnd (kl.getD i 0) (w.getD i 0) s) (by omega) (by omega) (rnd_len _ _ hs)
    rw [show ((i+1:Nat):Int)=(i:Int)+1 by omega] at ih'
    have fk:(nth (klN.map AV.int) i).toInt=U (kl.getD i 0):=by rw [← kl_A]; exact fldA' (l:=kl) (i:=i) (by rw [kl_len]; omega)
    have hnum:runE G ext (m+1) 144 [.int (i:Int)]=some ⟨[.int (U (kl.getD i 0))],[],false⟩:=by
      rw [f144_run,f144_eq,inR_nat (by omega),cond_true,Int.toNat_natCast,← fk]; rfl
    have fw:=fldA' (l:=w) (i:=i) (by omega)
    obtain ⟨a,b,c,d,e,f,g,h,rfl⟩:=len8 hs
    have e0:(AV.fld (.agg (A [a,b,c,d,e,f,g,h])) 0).toInt=U a:=rfl
    have e1:(AV.fld (.agg (A [a,b,c,d,e,f,g,h])) 1).toInt=U b:=rfl
    have e2:(AV.fld (.agg (A [a,b,c,d,e,f,g,h])) 2).toInt=U c:=rfl
    have e4:(AV.fld (.agg (A [a,b,c,d,e,f,g,h])) 4).toInt=U e:=rfl
    have e5:(AV.fld (.agg (A [a,b,c,d,e,f,g,h])) 5).toInt=U f:=rfl
    have e6:(AV.fld (.agg (A [a,b,c,d,e,f,g,h])) 6).toInt=U g:=rfl
    have e7:(AV.fld (.agg (A [a,b,c,d,e,f,g,h])) 7).toInt=U h:=rfl
    have r1:runE G ext (m+1) 143 [.int (U e),.int 6]=some ⟨[.int (U (rotV e 6))],[],false⟩:=turn_at m e (k:=6) (by omega)
    have r2:runE G ext (m+1) 143 [.int (U e),.int 11]=some ⟨[.int (U (rotV e 11))],[],false⟩:=turn_at m e (k:=11) (by omega)
    have r3:runE G ext (m+1) 143 [.int (U e),.int 25]=some ⟨[.int (U (rotV e 25))],[],false⟩:=turn_at m e (k:=25) (by omega)
    have r4:runE G ext (m+1) 143 [.int (U a),.int 2]=some ⟨[.int (U (rotV a 2))],[],false⟩:=turn_at m a (k:=2) (by omega)
    have r5:runE G ext (m+1) 143 [.int (U a),.int 13]=some ⟨[.int (U (rotV a 13))],[],false⟩:=turn_at m a (k:=13) (by omega)
    have r6:runE G ext (m+1) 143 [.int (U a),.int 22]=some ⟨[.int (U (rotV a 22))],[],false⟩:=turn_at m a (k:=22) (by omega)
    rw [f120_l0_eq,ltI_t (by omega),cond_true,e0,e1,e2,e4,e5,e6,e7,r1,r2,r3,r4,r5,r6,hnum,inR_nat (by omega),Int.toNat_natCast,fw]
    simp only [bind_run,consV_c,nilV_n,toInt_i,cond_true,u32_not',u32_xor,u32_and,u32_add]
    have hsh:shiftN 7 (A [a,b,c,d,e,f,g,h])=A [a,a,b,c,d,e,f,g]:=by kernel_rfl
    have e3:(AV.fld (.agg (A [a,a,b,c,d,e,f,g])) 4).toInt=U d:=rfl
    have h2:∀ T S M:BitVec 32,f120_l2 (runE G ext (m+1)) n k n (i:Int) (U T) (U (S+M)) 7 (A [a,b,c,d,e,f,g,h]) o4 (A w) (A h0) =
        f120_l0 (runE G ext (m+1)) n k ((i:Int)+1) (A [T+S+M,a,b,c,d+T,e,f,g]) o4 (A w) (A h0):=by
      intro T S M
      have:=refMix_l2 (runE G ext (m+1)) n k (i:Int) (U T) (U (S+M)) o4 (A w) (A h0) 7 n (A [a,b,c,d,e,f,g,h]) (by omega) (by omega)
      rw [hsh,e3,u32_add,u32_add,w64 (by omega) (by omega),← BitVec.add_assoc] at this
      exact this
    exact (h2 _ _ _).trans ih'
theorem addN_comm (h v:List (BitVec 32)):addN 8 h v=addN 8 v h:=by
  unfold addN
  apply List.map_congr_left
  intro j hj
  have:j < 8:=by simpa using hj
  rw [if_pos this,if_pos this,BitVec.add_comm]
theorem refMix_at (m:Nat) (hm:2000≤m) {s:List (BitVec 32)} {b:List UInt8} (hs:s.length=8) (hb:b.length≤maxLen):runE G ext (m+4) 120 [.agg (A s),.str b]=some ⟨[.agg (A (mixV s b))],[],false⟩:=by
  rw [f120_run,f120_eq,refSpread_at m hm hb,bind_run,nilV_n,consV_c,nilV_n,toAgg_a]
  unfold mixV
  rw [addN_comm]
  exact refMix_l0 (m+2) (m+3) (by omega) (sp b 64) s (sp_len b 64) hs _ 64 (m+3) 0 s (by omega) (by omega) hs
end Go.Proofs.YteiahdlklppghaaGreat.Ev
namespace Go.Proofs.YteiahdlklppghaaGreat.Ev
open Go Go.RowKit
def byteOf (y:BitVec 64):UInt8:=UInt8.ofNat (y.toNat % 256)
theorem byteOf_toNat (y:BitVec 64):((byteOf y).toNat:Int)=U y % 256:=by
  unfold byteOf U
  rw [UInt8.toNat_ofNat_of_lt' (by simp [UInt8.size]; omega)]
  omega
def bs (x:BitVec 64):Nat→List UInt8
  | 0=>[]
  | i+1=>byteOf (x >>> (8*i))::bs x i
theorem bs_len (x:BitVec 64):∀ i,(bs x i).length=i
  | 0=>rfl
  | i+1=>by simp [bs,bs_len x i]
def B (l:List UInt8):List AV:=l.map fun c=>.int (c.toNat:Int)
theorem bytesOf_B (l:List UInt8):bytesOf (B l)=l:=by
  unfold bytesOf B
  rw [List.map_map]
  conv=>rhs; rw [← List.map_id l]
  apply List.map_congr_left
  intro c _
  simp [AV.toInt]
theorem set_rep (r:Nat) (z v:AV) (l:List AV):(List.replicate (r+1) z++l).set r v=List.replicate r z++(v::l):=by
  apply List.ext_getElem
  · simp; omega
  · intro i h1 h2
    rw [List.getElem_set]
    by_cases e:r=i
    · subst e
      rw [if_pos rfl,List.getElem_append_right (by simp)]
      simp
    · rw [if_neg e]
      by_cases hi:i < r
      · rw [List.getElem_append_left (by simp; omega),List.getElem_append_left (by simp; omega)]; simp
      · rw [List.getElem_append_right (by simp; omega),List.getElem_append_right (by simp; omega)]
        simp only [List.length_replicate]
        rw [List.getElem_cons]
        rw [dif_neg (by omega)]
        congr 1
theorem put_l0 (run:Run) (n:Nat) (x:BitVec 64) (m:Nat) (hm:m≤1000):∀ (j k i:Nat),i+j=m→j < k →
    f158_l0 run n k (U (x >>> (8*i))) (m:Int) m (m:Int) (i:Int) (List.replicate (m-i) (.int 0)++B (bs x i))=some ⟨[.str (bs x m)],[],false⟩:=by
  intro j
  induction j with
  | zero =>
    intro k i hi hk
    obtain ⟨k,rfl⟩:∃ j,k=j+1:=⟨k-1,by omega⟩
    rw [Nat.add_zero] at hi
    subst hi
    rw [f158_l0_eq,ltI_f (by omega),cond_false,Nat.sub_self,List.replicate_zero,List.nil_append,List.drop_zero,List.take_of_length_le (by simp [B,bs_len]),bytesOf_B]
    rfl
  | succ j ih =>
    intro k i hi hk
    obtain ⟨k,rfl⟩:∃ j,k=j+1:=⟨k-1,by omega⟩
    have ih':=ih k (i+1) (by omega) (by omega)
    rw [show ((i+1:Nat):Int)=(i:Int)+1 by omega] at ih'
    have e1:x >>> (8*(i+1))=(x >>> (8*i)) >>> 8:=by rw [← BitVec.shiftRight_add]; congr 1
    have e2:IntKind.wrap .u8 (U (x >>> (8*i)))=((byteOf (x >>> (8*i))).toNat:Int):=by rw [wrap8,byteOf_toNat]
    have e3:=set_rep (m-(i+1)) (.int 0) (.int ((byteOf (x >>> (8*i))).toNat:Int)) (B (bs x i))
    rw [show m-(i+1)+1=m-i by omega,show AV.int ((byteOf (x >>> (8*i))).toNat:Int)::B (bs x i)=B (bs x (i+1)) from rfl] at e3
    rw [e1,← U_shr,← e3] at ih'
    rw [f158_l0_eq,ltI_t (by omega),cond_true,w64 (x:=(m:Int)-1) (by omega) (by omega),w64 (x:=(m:Int)-1-i) (by omega) (by omega),w64 (x:=(i:Int)+1) (by omega) (by omega),inR_yes (by omega) (by omega),cond_true,show ((m:Int)-1-i).toNat=m-(i+1) by omega,Nat.zero_add,e2]
    exact ih'
theorem put_at (n:Nat) (hn:2000≤n) (x:BitVec 64) {m:Nat} (hm:m≤1000):runE G ext (n+1) 158 [.int (U x),.int m]=some ⟨[.str (bs x m)],[],false⟩:=by
  rw [f158_run,f158_eq,eqI_t rfl,leI_t (by omega),Int.toNat_natCast,show Nat.ble (m*1) 140737488355328=true from Nat.ble_eq_true_of_le (by omega)]
  have:=put_l0 (runE G ext n) n x m hm m n 0 (by omega) (by omega)
  rw [Nat.mul_zero,BitVec.ushiftRight_zero,Nat.sub_zero,show B (bs x 0)=[] from rfl,List.append_nil] at this
  exact this
theorem refByte_at (n:Nat) (c:Int):runE G ext (n+1) 122 [.int c]=some ⟨[.str (bytesOf [.int (IntKind.wrap .u8 c)])],[],false⟩:=by
  rw [f122_run,f122_eq]; rfl
theorem refPut_l0 (m n:Nat) (x:BitVec 64) (size:Nat) (hm:size≤1000):∀ (j k i:Nat),i+j=size→j < k →
    f121_l0 (runE G ext (m+1)) n k (U (x >>> (8*i))) (size:Int) (bs x i) (i:Int)=some ⟨[.str (bs x size)],[],false⟩:=by
  intro j
  induction j with
  | zero =>
    intro k i hi hk
    obtain ⟨k,rfl⟩:∃ j,k=j+1:=⟨k-1,by omega⟩
    rw [Nat.add_zero] at hi
    subst hi
    rw [f121_l0_eq,ltI_f (by omega)]; rfl
  | succ j ih =>
    intro k i hi hk
    obtain ⟨k,rfl⟩:∃ j,k=j+1:=⟨k-1,by omega⟩
    have ih':=ih k (i+1) (by omega) (by omega)
    rw [show ((i+1:Nat):Int)=(i:Int)+1 by omega] at ih'
    have e1:x >>> (8*(i+1))=(x >>> (8*i)) >>> 8:=by rw [← BitVec.shiftRight_add]; congr 1
    obtain ⟨u1,u2⟩:=U_lt (x >>> (8*i))
    have u3:U (x >>> (8*i)) < 18446744073709551616:=u2
    have e2:bytesOf [.int (IntKind.wrap .u8 (IntKind.wrap .i64 (Int.tmod (U (x >>> (8*i))) 256)))]=[byteOf (x >>> (8*i))]:=by
      rw [Int.tmod_eq_emod_of_nonneg u1,w64 (by omega) (by omega),wrap8,Int.emod_emod_of_dvd _ (by decide),← byteOf_toNat]
      exact bytesOf_B [byteOf (x >>> (8*i))]
    have e3:IntKind.wrap .u64 (Int.tdiv (U (x >>> (8*i))) 256)=U ((x >>> (8*i)) >>> 8):=by
      have h8:=U_shr (x >>> (8*i)) 8
      rw [Int.fdiv_eq_ediv_of_nonneg _ (by decide),show (2:Int)^8=256 from rfl] at h8
      rw [Int.tdiv_eq_ediv_of_nonneg u1,wrap64,← h8]; omega
    rw [e1] at ih'
    rw [f121_l0_eq,ltI_t (by omega),cond_true,refByte_at,e2,bind_run,nilV_n,consV_c,nilV_n,toStr_s,show Nat.ble ([byteOf (x >>> (8*i))].length+(bs x i).length) maxLen=true from Nat.ble_eq_true_of_le (by rw [bs_len,maxLen_eq]; simp; omega),cond_true,w64 (x:=(i:Int)+1) (by omega) (by omega),e3]
    exact ih'
theorem refPut_at (n:Nat) (hn:2000≤n) (x:BitVec 64) {m:Nat} (hm:m≤1000):runE G ext (n+2) 121 [.int (U x),.int m]=some ⟨[.str (bs x m)],[],false⟩:=by
  rw [f121_run,f121_eq]
  have:=refPut_l0 n (n+1) x m hm m (n+1) 0 (by omega) (by omega)
  rw [Nat.mul_zero,BitVec.ushiftRight_zero] at this
  exact this
def gapV (n:Nat):Nat:=(119-n % 64) % 64
def padV (n:Nat):List UInt8:=([128]++List.replicate (gapV n) 0)++bs (BitVec.ofNat 64 (8*n)) 8
theorem padV_len (n:Nat):(padV n).length=gapV n+9:=by simp [padV,bs_len]
theorem repeatL_rep:∀ c:Nat,Lib.repeatL [0] c=List.replicate c 0
  | 0=>rfl
  | c+1=>by simp [Lib.repeatL,repeatL_rep c,List.replicate_succ]
theorem ext_repeat (s:List UInt8) (c:Int) (h0:0≤c) (h1:c < 1048576) (hs:s.length≤1048576) (n:Nat):runE G ext n 180 [.str s,.int c]=some ⟨[.str (Lib.repeatL s c.toNat)],[],false⟩:=by
  refine ext_at ?_ n
  show repeatX [.str s,.int c]=_
  unfold repeatX
  simp only [toInt_i,toStr_s]
  rw [leI_t h0,ltI_t h1,show Nat.ble s.length 1048576=true from Nat.ble_eq_true_of_le hs]
  rfl
theorem pad_at (m:Nat) (hm:2000≤m) {n:Nat} (hn:n≤1152921504606846976):runE G ext (m+3) 171 [.int (n:Int)]=some ⟨[.str (padV n)],[],false⟩:=by
  have e1:Int.tmod (n:Int) 64=((n % 64:Nat):Int):=by rw [Int.tmod_eq_emod_of_nonneg (by omega)]; omega
  have e2:IntKind.wrap .u64 (119-((n % 64:Nat):Int))=((119-n % 64:Nat):Int):=by rw [wrap64]; omega
  have e3:Int.tmod ((119-n % 64:Nat):Int) 64=((gapV n:Nat):Int):=by unfold gapV; rw [Int.tmod_eq_emod_of_nonneg (by omega)]; omega
  have hg:gapV n < 64:=by unfold gapV; omega
  have e4:IntKind.wrap .u64 (8*(n:Int))=U (BitVec.ofNat 64 (8*n)):=by unfold U; rw [wrap64,BitVec.toNat_ofNat]; omega
  have hp:runE G ext (m+2) 138 [.int (U (BitVec.ofNat 64 (8*n)))]=some ⟨[.str (bs (BitVec.ofNat 64 (8*n)) 8)],[],false⟩:=by
    have:=put_at m hm (BitVec.ofNat 64 (8*n)) (m:=8) (by omega)
    rw [f138_run,f138_eq,show (8:Int)=((8:Nat):Int) from rfl,this]
    rfl
  have hr:=ext_repeat [0] (gapV n:Int) (by omega) (by omega) (by simp) (m+2)
  rw [f171_run,f171_eq,e1,e2,e3,w64 (by omega) (by omega),hr,bind_run,nilV_n,consV_c,nilV_n,toStr_s,Int.toNat_natCast,repeatL_rep,
    show Nat.ble (1+(List.replicate (gapV n) (0:UInt8)).length) maxLen=true from Nat.ble_eq_true_of_le (by rw [maxLen_eq]; simp; omega),cond_true,e4,hp,bind_run,nilV_n,consV_c,nilV_n,toStr_s,
    show Nat.ble (([(128:UInt8)]++List.replicate (gapV n) (0:UInt8)).length+(bs (BitVec.ofNat 64 (8*n)) 8).length) maxLen=true from Nat.ble_eq_true_of_le (by rw [maxLen_eq,bs_len]; simp; omega),cond_true]
  rfl
theorem refPad_l0 (m n:Nat) (hm:2000≤m) {x:Nat} (hx:x≤1152921504606846976):∀ (j k i:Nat),i+j=gapV x→j < k →
    f119_l0 (runE G ext (m+2)) n k (x:Int) ([128]++List.replicate i 0)=some ⟨[.str (padV x)],[],false⟩:=by
  have hg:gapV x < 64:=by unfold gapV; omega
  intro j
  induction j with
  | zero =>
    intro k i hi hk
    obtain ⟨k,rfl⟩:∃ j,k=j+1:=⟨k-1,by omega⟩
    rw [Nat.add_zero] at hi
    subst hi
    have e1:Int.tmod (x:Int) 64=((x % 64:Nat):Int):=by rw [Int.tmod_eq_emod_of_nonneg (by omega)]; omega
    have el:((([(128:UInt8)]++List.replicate (gapV x) (0:UInt8)).length:Nat):Int)=((1+gapV x:Nat):Int):=by simp; omega
    have e2:IntKind.wrap .u64 ((1+gapV x:Nat):Int)=((1+gapV x:Nat):Int):=by rw [wrap64]; omega
    have e3:IntKind.wrap .u64 (((x % 64:Nat):Int)+((1+gapV x:Nat):Int))=((x % 64+(1+gapV x):Nat):Int):=by rw [wrap64]; omega
    have e4:IntKind.wrap .u64 (((x % 64+(1+gapV x):Nat):Int)+8)=((x % 64+(1+gapV x)+8:Nat):Int):=by rw [wrap64]; omega
    have e5:Int.tmod ((x % 64+(1+gapV x)+8:Nat):Int) 64=0:=by rw [Int.tmod_eq_emod_of_nonneg (by omega)]; unfold gapV; omega
    have e6:IntKind.wrap .u64 ((x:Int)*8)=U (BitVec.ofNat 64 (8*x)):=by unfold U; rw [wrap64,BitVec.toNat_ofNat]; omega
    have hp:runE G ext (m+2) 121 [.int (U (BitVec.ofNat 64 (8*x))),.int 8]=some ⟨[.str (bs (BitVec.ofNat 64 (8*x)) 8)],[],false⟩:=refPut_at m hm _ (m:=8) (by omega)
    rw [f119_l0_eq,e1,el,e2,e3,e4,e5,eqI_t rfl,not_t,cond_false,e6,hp,bind_run,nilV_n,consV_c,nilV_n,toStr_s,
      show Nat.ble (([(128:UInt8)]++List.replicate (gapV x) (0:UInt8)).length+(bs (BitVec.ofNat 64 (8*x)) 8).length) maxLen=true from Nat.ble_eq_true_of_le (by rw [maxLen_eq,bs_len]; simp; omega),cond_true]
    rfl
  | succ j ih =>
    intro k i hi hk
    obtain ⟨k,rfl⟩:∃ j,k=j+1:=⟨k-1,by omega⟩
    have ih':=ih k (i+1) (by omega) (by omega)
    have e1:Int.tmod (x:Int) 64=((x % 64:Nat):Int):=by rw [Int.tmod_eq_emod_of_nonneg (by omega)]; omega
    have el:((([(128:UInt8)]++List.replicate i (0:UInt8)).length:Nat):Int)=((1+i:Nat):Int):=by simp; omega
    have e2:IntKind.wrap .u64 ((1+i:Nat):Int)=((1+i:Nat):Int):=by rw [wrap64]; omega
    have e3:IntKind.wrap .u64 (((x % 64:Nat):Int)+((1+i:Nat):Int))=((x % 64+(1+i):Nat):Int):=by rw [wrap64]; omega
    have e4:IntKind.wrap .u64 (((x % 64+(1+i):Nat):Int)+8)=((x % 64+(1+i)+8:Nat):Int):=by rw [wrap64]; omega
    have e5:¬ Int.tmod ((x % 64+(1+i)+8:Nat):Int) 64=0:=by rw [Int.tmod_eq_emod_of_nonneg (by omega)]; unfold gapV at hi; omega
    have e7:bytesOf [.int (IntKind.wrap .u8 0)]=[(0:UInt8)]:=by decide +kernel
    have e8:([128]++List.replicate i (0:UInt8))++[0]=[128]++List.replicate (i+1) 0:=by rw [List.replicate_succ',List.append_assoc]
    rw [f119_l0_eq,e1,el,e2,e3,e4,eqI_f e5,not_f,cond_true,refByte_at,e7,bind_run,nilV_n,consV_c,nilV_n,toStr_s,
      show Nat.ble (([(128:UInt8)]++List.replicate i (0:UInt8)).length+[(0:UInt8)].length) maxLen=true from Nat.ble_eq_true_of_le (by rw [maxLen_eq]; simp; omega),cond_true,e8]
    exact ih'
theorem refPad_at (m:Nat) (hm:2000≤m) {n:Nat} (hn:n≤1152921504606846976):runE G ext (m+3) 119 [.int (n:Int)]=some ⟨[.str (padV n)],[],false⟩:=by
  have hg:gapV n < 64:=by unfold gapV; omega
  have e7:bytesOf [.int (IntKind.wrap .u8 128)]=[(128:UInt8)]:=by decide +kernel
  rw [f119_run,f119_eq,refByte_at,e7,bind_run,nilV_n,consV_c,nilV_n,toStr_s]
  have:=refPad_l0 m (m+2) hm hn (gapV n) (m+2) 0 (by omega) (by omega)
  rw [List.replicate_zero,List.append_nil] at this
  exact this
end Go.Proofs.YteiahdlklppghaaGreat.Ev
namespace Go.Proofs.YteiahdlklppghaaGreat.Ev
open Go Go.RowKit
def fsN:List Int:=[1779033703,3144134277,1013904242,2773480762,1359893119,2600822924,528734635,1541459225]
def fs:List (BitVec 32):=fsN.map (BitVec.ofInt 32)
theorem fs_A:A fs=fsN.map AV.int:=by kernel_rfl
theorem fs_len:fs.length=8:=rfl
def blocksV (l:List UInt8):Nat→Nat→List (BitVec 32)→List (BitVec 32)
  | 0,_,s=>s
  | j+1,at_,s=>blocksV l j (at_+64) (mixV s ((l.take (at_+64)).drop at_))
theorem blocksV_len (l:List UInt8):∀ (j at_:Nat) (s:List (BitVec 32)),s.length=8→(blocksV l j at_ s).length=8
  | 0,_,_,h=>h
  | j+1,_,_,_=>blocksV_len l j _ _ (mixV_len _ _)
theorem blocks_split (l:List UInt8):∀ (i j at_:Nat) (s:List (BitVec 32)),blocksV l (i+j) at_ s=blocksV l j (at_+64*i) (blocksV l i at_ s)
  | 0,j,at_,s=>by simp [blocksV]
  | i+1,j,at_,s=>by
    rw [show i+1+j=(i+j)+1 by omega]
    simp only [blocksV]
    rw [blocks_split l i j (at_+64),show at_+64+64*i=at_+64*(i+1) by omega]
theorem blocks_app (b p:List UInt8):∀ (j at_:Nat) (s:List (BitVec 32)),at_+64*j≤b.length→blocksV (b++p) j at_ s=blocksV b j at_ s
  | 0,_,_,_=>rfl
  | j+1,at_,s,h=>by
    simp only [blocksV]
    rw [List.take_append_of_le_length (by omega),blocks_app b p j (at_+64) _ (by omega)]
theorem blocks_drop (l:List UInt8) (c:Nat):∀ (j at_:Nat) (s:List (BitVec 32)),blocksV (l.drop c) j at_ s=blocksV l j (c+at_) s
  | 0,_,_=>rfl
  | j+1,at_,s=>by
    simp only [blocksV]
    rw [List.take_drop,List.drop_drop,blocks_drop l c j (at_+64),show c+(at_+64)=c+at_+64 by omega]
theorem write_l0 (m n:Nat) (hm:2000≤m) (l:List UInt8) (hl:l.length≤4611686018427387904) (o3:Int) (o4:Bool):∀ (j k at_:Nat) (s:List (BitVec 32)),(l.length-at_) / 64=j→at_≤l.length→j < k→s.length=8 →
    f155_l0 (runE G ext (m+4)) n k (at_:Int) (A s) l o3 o4=some ⟨[],[.agg [.agg (A (blocksV l j at_ s)),.str (l.drop (at_+64*j)),.int o3,.bool o4]],false⟩:=by
  intro j
  induction j with
  | zero =>
    intro k at_ s hj hat hk hs
    obtain ⟨k,rfl⟩:∃ j,k=j+1:=⟨k-1,by omega⟩
    have hb:boundsOk (at_:Int) (l.length:Int) (l.length:Int) (l.length:Int)=true:=by simp [boundsOk]; omega
    rw [f155_l0_eq,w64 (x:=(l.length:Int)-at_) (by omega) (by omega),leI_f (by omega),cond_false,hb,cond_true,Int.toNat_natCast,Int.toNat_natCast,List.take_length]
    rfl
  | succ j ih =>
    intro k at_ s hj hat hk hs
    obtain ⟨k,rfl⟩:∃ j,k=j+1:=⟨k-1,by omega⟩
    have ih':=ih k (at_+64) (mixV s ((l.take (at_+64)).drop at_)) (by omega) (by omega) (by omega) (mixV_len _ _)
    rw [show ((at_+64:Nat):Int)=(at_:Int)+64 by omega] at ih'
    have hb:boundsOk (at_:Int) ((at_:Int)+64) (l.length:Int) (l.length:Int)=true:=by simp [boundsOk]; omega
    rw [f155_l0_eq,w64 (x:=(l.length:Int)-at_) (by omega) (by omega),leI_t (by omega),cond_true,w64 (x:=(at_:Int)+64) (by omega) (by omega),hb,cond_true,Int.toNat_natCast,show ((at_:Int)+64).toNat=at_+64 by omega,
      mix_at m hm hs (by rw [maxLen_eq]; simp; omega),bind_run,nilV_n,consV_c,nilV_n,toAgg_a,ih']
    simp only [blocksV]
    rw [show at_+64+64*j=at_+64*(j+1) by omega]
def stateV (s:List (BitVec 32)) (rest:List UInt8) (n:Int) (on:Bool):AV:=.agg [.agg (A s),.str rest,.int n,.bool on]
theorem write_on (n:Nat) {s:List (BitVec 32)} {rest b:List UInt8} (hs:s.length=8) (hb:rest.length+b.length≤1152921504606846976) (N:Nat) (hN:N+b.length≤1152921504606846976) (hn:rest.length+b.length+3000≤n) :
    runE G ext (n+1) 155 [stateV s rest (N:Int) true,.str b]=some ⟨[],[stateV (blocksV (rest++b) ((rest++b).length / 64) 0 s) ((rest++b).drop (64*((rest++b).length / 64))) ((N+b.length:Nat):Int) true],false⟩:=by
  obtain ⟨m,rfl⟩:∃ m,n=m+4:=⟨n-4,by omega⟩
  unfold stateV
  have e1:IntKind.wrap .u64 ((N:Int)+IntKind.wrap .u64 (b.length:Int))=((N+b.length:Nat):Int):=by rw [wrap64,wrap64]; omega
  have hlen:(rest++b).length=rest.length+b.length:=by simp
  rw [f155_run,f155_eq,not_t,cond_false,show Nat.ble (rest.length+b.length) maxLen=true from Nat.ble_eq_true_of_le (by rw [maxLen_eq]; omega),cond_true,e1]
  have:=write_l0 m (m+4) (by omega) (rest++b) (by omega) ((N+b.length:Nat):Int) true ((rest++b).length / 64) (m+4) 0 s (by simp) (by omega) (by omega) hs
  rw [Nat.zero_add] at this
  exact this
theorem write_off (n:Nat) {b:List UInt8} (l0:List AV) (hb:b.length≤1152921504606846976) (hn:b.length+3000≤n) :
    runE G ext (n+1) 155 [.agg [.agg l0,.str [],.int 0,.bool false],.str b]=some ⟨[],[stateV (blocksV b (b.length / 64) 0 fs) (b.drop (64*(b.length / 64))) (b.length:Int) true],false⟩:=by
  obtain ⟨m,rfl⟩:∃ m,n=m+4:=⟨n-4,by omega⟩
  unfold stateV
  have e1:IntKind.wrap .u64 ((0:Int)+IntKind.wrap .u64 (b.length:Int))=(b.length:Int):=by rw [wrap64,wrap64]; omega
  have hf:runE G ext (m+4) 169 []=some ⟨[.agg (A fs)],[],false⟩:=by
    rw [f169_run,f169_eq,fs_A]; kernel_rfl
  rw [f155_run,f155_eq,not_f,cond_true,hf,bind_run,nilV_n,consV_c,nilV_n,toAgg_a,show Nat.ble (([]:List UInt8).length+b.length) maxLen=true from Nat.ble_eq_true_of_le (by rw [maxLen_eq]; simp; omega),cond_true,e1,List.nil_append]
  have:=write_l0 m (m+4) (by omega) b (by omega) (b.length:Int) true (b.length / 64) (m+4) 0 fs (by simp) (by omega) (by omega) fs_len
  rw [Nat.zero_add] at this
  exact this
def wordB (x:BitVec 32):List UInt8:=bs (x.setWidth 64) 4
def outV (w:List (BitVec 32)):List UInt8:=(w.map wordB).flatten
theorem outV_len:∀ w:List (BitVec 32),(outV w).length=4*w.length
  | []=>rfl
  | x::w=>by
    have:=outV_len w
    unfold outV at this ⊢
    simp only [List.map_cons,List.flatten_cons,List.length_append,List.length_cons,this,wordB,bs_len]
    omega
theorem outV_snoc (w:List (BitVec 32)) (x:BitVec 32):outV (w++[x])=outV w++wordB x:=by simp [outV]
theorem U_set (x:BitVec 32):IntKind.wrap .u64 (U x)=U (x.setWidth 64):=by
  have:=x.isLt
  rw [wrap64]; unfold U; rw [BitVec.toNat_setWidth]; omega
theorem put32_at (m:Nat) (hm:2000≤m) (x:BitVec 32):runE G ext (m+2) 137 [.int (U x)]=some ⟨[.str (wordB x)],[],false⟩:=by
  have h:runE G ext (m+1) 158 [.int (U (x.setWidth 64)),.int 4]=some ⟨[.str (wordB x)],[],false⟩:=put_at m hm _ (m:=4) (by omega)
  rw [f137_run,f137_eq,U_set,h]; rfl
theorem splice_bytes (o x:List UInt8) (k:Nat):bytesOf (splice (ofBytes o) k (ofBytes x))=o.take k++(x++o.drop (k+x.length)):=by
  have e:splice (ofBytes o) k (ofBytes x)=B (o.take k++(x++o.drop (k+x.length))):=by
    simp [splice,ofBytes,B,List.map_take,List.map_drop]
  rw [e,bytesOf_B]
theorem take_get (w:List (BitVec 32)) {i:Nat} (h:i < w.length):w.take (i+1)=w.take i++[w.getD i 0]:=by
  rw [List.take_succ_eq_append_getElem h]; simp [h]
theorem sum_l0 (m n:Nat) (hm:2000≤m) (w:List (BitVec 32)) (hw:w.length=8) (o1:List AV) (o2:List UInt8) (o3:Int) (o4:Bool) (o5:List UInt8):∀ (j k i:Nat),i+j=8→j < k →
    f156_l0 (runE G ext (m+2)) n k (A w) (i:Int) o1 o2 o3 o4 o5 (outV (w.take i)++List.replicate (32-4*i) 0)=some ⟨[.blob (outV w)],[.agg [.agg o1,.str o2,.int o3,.bool o4]],false⟩:=by
  intro j
  induction j with
  | zero =>
    intro k i hi hk
    obtain ⟨k,rfl⟩:∃ j,k=j+1:=⟨k-1,by omega⟩
    rw [Nat.add_zero] at hi
    subst hi
    rw [f156_l0_eq,ltI_f (by omega),cond_false,List.take_of_length_le (by omega),Nat.sub_self,List.replicate_zero,List.append_nil]
    rfl
  | succ j ih =>
    intro k i hi hk
    obtain ⟨k,rfl⟩:∃ j,k=j+1:=⟨k-1,by omega⟩
    have ih':=ih k (i+1) (by omega) (by omega)
    rw [show ((i+1:Nat):Int)=(i:Int)+1 by omega] at ih'
    have hb:boundsOk (4*(i:Int)) (4*(i:Int)+4) (4*(i:Int)+4) 32=true:=by simp [boundsOk]; omega
    have hl:(outV (w.take i)).length=4*i:=by rw [outV_len]; simp; omega
    have hx:(wordB (w.getD i 0)).length=4:=bs_len _ _
    have e:bytesOf (splice (ofBytes (outV (w.take i)++List.replicate (32-4*i) 0)) (4*i) (List.take 4 (ofBytes (wordB (w.getD i 0)))))=outV (w.take (i+1))++List.replicate (32-4*(i+1)) 0:=by
      rw [List.take_of_length_le (l:=ofBytes (wordB (w.getD i 0))) (i:=4) (by unfold ofBytes; rw [List.length_map]; omega),splice_bytes,List.take_append_of_le_length (by omega),List.take_of_length_le (l:=outV (w.take i)) (by omega),take_get w (by omega),outV_snoc,hx,List.append_assoc]
      congr 2
      rw [List.drop_append,List.drop_eq_nil_of_le (by omega),List.nil_append,hl,List.drop_replicate]
      congr 1
      omega
    rw [f156_l0_eq,ltI_t (by omega),cond_true,inR_nat (by omega),cond_true,w64 (x:=4*(i:Int)) (by omega) (by omega),w64 (x:=4*(i:Int)+4) (by omega) (by omega),w64 (x:=(i:Int)+1) (by omega) (by omega),hb,Bool.and_true,cond_true,Int.toNat_natCast,fldA' (by omega),put32_at m hm,bind_run,nilV_n,consV_c,nilV_n,toStr_s,
      show (4*(i:Int)).toNat=4*i by omega,show (4*(i:Int)+4).toNat=4*i+4 by omega,Nat.add_sub_cancel_left,e]
    exact ih'
theorem sum_on (n:Nat) {s:List (BitVec 32)} {rest:List UInt8} (hs:s.length=8) (N:Nat) (hr:rest.length≤1152921504606840000) (hN:N≤1152921504606840000) (hn:rest.length+5000≤n) :
    runE G ext (n+1) 156 [stateV s rest (N:Int) true]=some ⟨[.blob (outV (blocksV (rest++padV N) ((rest++padV N).length / 64) 0 s))],[stateV s rest (N:Int) true],false⟩:=by
  obtain ⟨m,rfl⟩:∃ m,n=m+4:=⟨n-4,by omega⟩
  have hg:gapV N < 64:=by unfold gapV; omega
  have hp:=pad_at (m+1) (by omega) (n:=N) (by omega)
  have hw:=write_on (m+3) (s:=s) (rest:=rest) (b:=padV N) hs (by rw [padV_len]; omega) N (by rw [padV_len]; omega) (by rw [padV_len]; omega)
  unfold stateV at hw ⊢
  rw [f156_run,f156_eq,hp,bind_run,nilV_n,consV_c,nilV_n,toStr_s,hw,bind_run,consV_c,nilV_n,nilV_n]
  have:=sum_l0 (m+2) (m+4) (by omega) (blocksV (rest++padV N) ((rest++padV N).length / 64) 0 s) (blocksV_len _ _ _ _ hs) (A s) rest (N:Int) true (List.replicate 32 0) 8 (m+4) 0 (by omega) (by omega)
  rw [List.take_zero,show outV []=[] from rfl,List.nil_append] at this
  exact this
def hashV (b:List UInt8):List UInt8:=outV (blocksV (b++padV b.length) ((b++padV b.length).length / 64) 0 fs)
theorem hashV_len (b:List UInt8):(hashV b).length=32:=by
  unfold hashV
  rw [outV_len,blocksV_len _ _ _ _ fs_len]
theorem two_steps (b p:List UInt8):blocksV (b.drop (64*(b.length / 64))++p) ((b.drop (64*(b.length / 64))++p).length / 64) 0 (blocksV b (b.length / 64) 0 fs)=blocksV (b++p) ((b++p).length / 64) 0 fs:=by
  have e1:b.drop (64*(b.length / 64))++p=(b++p).drop (64*(b.length / 64)):=by rw [List.drop_append_of_le_length (by omega)]
  have e2:(b++p).length / 64=b.length / 64+((b++p).drop (64*(b.length / 64))).length / 64:=by simp; omega
  rw [e1,e2,blocks_split,blocks_drop,Nat.zero_add,Nat.add_zero,← blocks_app b p (b.length / 64) 0 fs (by omega)]
theorem sha_at (n:Nat) {b:List UInt8} (hb:b.length≤1152921504606840000) (hn:b.length+6000≤n):runE G ext (n+1) 135 [.str b]=some ⟨[.blob (hashV b)],[],false⟩:=by
  obtain ⟨m,rfl⟩:∃ m,n=m+1:=⟨n-1,by omega⟩
  have h0:runE G ext (m+1) 154 []=some ⟨[.agg [.agg (List.replicate 8 (.int 0)),.str [],.int 0,.bool false]],[],false⟩:=by
    rw [f154_run,f154_eq]; rfl
  have h1:=write_off m (b:=b) (List.replicate 8 (.int 0)) (by omega) (by omega)
  have h2:=sum_on m (s:=blocksV b (b.length / 64) 0 fs) (rest:=b.drop (64*(b.length / 64))) (blocksV_len _ _ _ _ fs_len) b.length (by simp; omega) (by omega) (by simp; omega)
  rw [two_steps] at h2
  unfold stateV at h1 h2
  rw [f135_run,f135_eq,h0,bind_run,nilV_n,consV_c,nilV_n]
  have e:runE G ext (m+1) 155 [.agg [.agg ((AV.fld (.agg [.agg (List.replicate 8 (.int 0)),.str [],.int 0,.bool false]) 0).toAgg),.str ((AV.fld (.agg [.agg (List.replicate 8 (.int 0)),.str [],.int 0,.bool false]) 1).toStr),.int ((AV.fld (.agg [.agg (List.replicate 8 (.int 0)),.str [],.int 0,.bool false]) 2).toInt),.bool ((AV.fld (.agg [.agg (List.replicate 8 (.int 0)),.str [],.int 0,.bool false]) 3).toBool)],.str b]=_:=h1
  rw [e,bind_run,consV_c,nilV_n,nilV_n]
  have e2:∀ (x:List AV) (y:List UInt8) (z:Int) (o:Bool),[AV.agg [.agg ((AV.fld (.agg [.agg x,.str y,.int z,.bool o]) 0).toAgg),.str ((AV.fld (.agg [.agg x,.str y,.int z,.bool o]) 1).toStr),.int ((AV.fld (.agg [.agg x,.str y,.int z,.bool o]) 2).toInt),.bool ((AV.fld (.agg [.agg x,.str y,.int z,.bool o]) 3).toBool)]]=[.agg [.agg x,.str y,.int z,.bool o]]:=fun _ _ _ _=>rfl
  rw [e2,h2,bind_run,consV_c,nilV_n,consV_c,nilV_n,toBlob_b]
  rfl
theorem set_bytes {P:List UInt8} (r:Nat) (v:UInt8):(P++List.replicate (r+1) 0).set P.length v=P++[v]++List.replicate r 0:=by
  rw [List.set_append_right _ _ (Nat.le_refl _),Nat.sub_self,List.replicate_succ,List.set_cons_zero,List.append_assoc]; rfl
theorem refSum_l4 (run:Run) (n k0 k2:Nat) (P v:List UInt8) (i:Nat) (hi:i < 8) (hP:P.length=4*i) (hv:v.length=4) (o2:List UInt8) (o3:List AV):∀ (j k c:Nat),c+j=4→j < k →
    f91_l4 run n k0 k2 k (i:Int) v (c:Int) o2 o3 (P++v.take c++List.replicate (32-4*i-c) 0)=f91_l2 run n k0 k2 ((i:Int)+1) o2 o3 (P++v++List.replicate (32-4*(i+1)) 0):=by
  intro j
  induction j with
  | zero =>
    intro k c hc hk
    obtain ⟨k,rfl⟩:∃ j,k=j+1:=⟨k-1,by omega⟩
    rw [Nat.add_zero] at hc
    subst hc
    rw [f91_l4_eq,ltI_f (by omega),cond_false,List.take_of_length_le (by omega),w64 (by omega) (by omega),show 32-4*i-4=32-4*(i+1) by omega]
  | succ j ih =>
    intro k c hc hk
    obtain ⟨k,rfl⟩:∃ j,k=j+1:=⟨k-1,by omega⟩
    have ih':=ih k (c+1) (by omega) (by omega)
    rw [show ((c+1:Nat):Int)=(c:Int)+1 by omega] at ih'
    have hl:(P++v.take c).length=4*i+c:=by simp; omega
    have e:=set_bytes (P:=P++v.take c) (32-4*i-(c+1)) (v.getD c 0)
    rw [show 32-4*i-(c+1)+1=32-4*i-c by omega,hl,List.append_assoc P (v.take c) [v.getD c 0],show v.take c++[v.getD c 0]=v.take (c+1) from by rw [List.take_succ_eq_append_getElem (by omega)]; simp [show c < v.length by omega]] at e
    rw [f91_l4_eq,ltI_t (by omega),cond_true,inR_nat (by omega),cond_true,w64 (x:=4*(i:Int)) (by omega) (by omega),w64 (x:=4*(i:Int)+c) (by omega) (by omega),inR_yes (by omega) (by omega),cond_true,w64 (x:=(c:Int)+1) (by omega) (by omega),show (4*(i:Int)+c).toNat=4*i+c by omega,Int.toNat_natCast,Int.toNat_natCast,UInt8.ofNat_toNat,e]
    exact ih'
theorem refSum_l2 (m n k0:Nat) (hm:2000≤m) (hn:100≤n) (w:List (BitVec 32)) (hw:w.length=8) (o2:List UInt8):∀ (j k i:Nat),i+j=8→j < k →
    f91_l2 (runE G ext (m+2)) n k0 k (i:Int) o2 (A w) (outV (w.take i)++List.replicate (32-4*i) 0)=some ⟨[.blob (outV w)],[],false⟩:=by
  intro j
  induction j with
  | zero =>
    intro k i hi hk
    obtain ⟨k,rfl⟩:∃ j,k=j+1:=⟨k-1,by omega⟩
    rw [Nat.add_zero] at hi
    subst hi
    rw [f91_l2_eq,ltI_f (by omega),cond_false,List.take_of_length_le (by omega),Nat.sub_self,List.replicate_zero,List.append_nil]
    rfl
  | succ j ih =>
    intro k i hi hk
    obtain ⟨k,rfl⟩:∃ j,k=j+1:=⟨k-1,by omega⟩
    have ih':=ih k (i+1) (by omega) (by omega)
    rw [show ((i+1:Nat):Int)=(i:Int)+1 by omega,take_get w (by omega),outV_snoc] at ih'
    have hl:(outV (w.take i)).length=4*i:=by rw [outV_len]; simp; omega
    have hp:runE G ext (m+2) 121 [.int (U ((w.getD i 0).setWidth 64)),.int 4]=some ⟨[.str (wordB (w.getD i 0))],[],false⟩:=refPut_at m hm _ (m:=4) (by omega)
    have h4:=refSum_l4 (runE G ext (m+2)) n k0 k (outV (w.take i)) (wordB (w.getD i 0)) i (by omega) hl (bs_len _ _) o2 (A w) 4 n 0 (by omega) (by omega)
    rw [List.take_zero,List.append_nil,Nat.sub_zero] at h4
    rw [f91_l2_eq,ltI_t (by omega),cond_true,inR_nat (by omega),cond_true,Int.toNat_natCast,fldA' (by omega),U_set,hp,bind_run,nilV_n,consV_c,nilV_n,toStr_s]
    exact h4.trans ih'
theorem refSum_l0 (m n:Nat) (hm:2000≤m) (hn:100≤n) (l:List UInt8) (Q:Nat) (hl:l.length=64*Q) (hQ:Q≤100000000000000000) (o2:List UInt8):∀ (j k i:Nat) (s:List (BitVec 32)),i+j=Q→j < k→s.length=8 →
    f91_l0 (runE G ext (m+4)) n k l ((64*i:Nat):Int) o2 (A s)=some ⟨[.blob (outV (blocksV l j (64*i) s))],[],false⟩:=by
  intro j
  induction j with
  | zero =>
    intro k i s hi hk hs
    obtain ⟨k,rfl⟩:∃ j,k=j+1:=⟨k-1,by omega⟩
    rw [f91_l0_eq,ltI_f (by omega),cond_false]
    have:=refSum_l2 (m+2) n k (by omega) hn s hs o2 8 n 0 (by omega) (by omega)
    rw [List.take_zero,show outV []=[] from rfl,List.nil_append] at this
    exact this
  | succ j ih =>
    intro k i s hi hk hs
    obtain ⟨k,rfl⟩:∃ j,k=j+1:=⟨k-1,by omega⟩
    have ih':=ih k (i+1) (mixV s ((l.take (64*i+64)).drop (64*i))) (by omega) (by omega) (mixV_len _ _)
    rw [show 64*(i+1)=64*i+64 by omega,show ((64*i+64:Nat):Int)=((64*i:Nat):Int)+64 by omega] at ih'
    have hb:boundsOk ((64*i:Nat):Int) (((64*i:Nat):Int)+64) (l.length:Int) (l.length:Int)=true:=by simp [boundsOk]; omega
    rw [f91_l0_eq,ltI_t (by omega),cond_true,w64 (x:=((64*i:Nat):Int)+64) (by omega) (by omega),hb,cond_true,Int.toNat_natCast,show (((64*i:Nat):Int)+64).toNat=64*i+64 by omega,
      refMix_at m hm hs (by rw [maxLen_eq]; simp; omega),bind_run,nilV_n,consV_c,nilV_n,toAgg_a,ih']
    rfl
theorem refSha_at (n:Nat) {b:List UInt8} (hb:b.length≤1152921504606840000) (hn:b.length+6000≤n):runE G ext (n+1) 91 [.str b]=some ⟨[.blob (hashV b)],[],false⟩:=by
  obtain ⟨m,rfl⟩:∃ m,n=m+4:=⟨n-4,by omega⟩
  have hg:gapV b.length < 64:=by unfold gapV; omega
  have hf:runE G ext (m+4) 118 []=some ⟨[.agg (A fs)],[],false⟩:=by
    rw [f118_run,f118_eq,fs_A]; kernel_rfl
  have hp:=refPad_at (m+1) (by omega) (n:=b.length) (by omega)
  have hlen:(b++padV b.length).length=b.length+(gapV b.length+9):=by rw [List.length_append,padV_len]
  have hmod:(b.length+(gapV b.length+9)) % 64=0:=by unfold gapV; omega
  have e1:IntKind.wrap .u64 (b.length:Int)=(b.length:Int):=by rw [wrap64]; omega
  rw [f91_run,f91_eq,hf,bind_run,nilV_n,consV_c,nilV_n,e1,hp,bind_run,nilV_n,consV_c,nilV_n,toStr_s,toAgg_a,show Nat.ble (b.length+(padV b.length).length) maxLen=true from Nat.ble_eq_true_of_le (by rw [maxLen_eq,padV_len]; omega),cond_true]
  unfold hashV
  exact refSum_l0 m (m+4) (by omega) (by omega) (b++padV b.length) ((b++padV b.length).length / 64) (by omega) (by omega) _ _ (m+4) 0 fs (by omega) (by omega) fs_len
end Go.Proofs.YteiahdlklppghaaGreat.Ev

namespace Go.Proofs.YteiahdlklppghaaGreat.Ev
open Go Go.RowKit
theorem step1 {α:Type} (v:AV) (fr:Bool) (K:AV→Option α):(some (⟨[v],[],fr⟩:Res)).bind (fun r=>nilV r.outs (consV r.vals fun v vs=>nilV vs (K v)))=K v:=rfl
theorem step1f {α:Type} (v:AV) (K:AV→Option α):(some (⟨[v],[],true⟩:Res)).bind (fun r=>bif r.fresh then nilV r.outs (consV r.vals fun v vs=>nilV vs (K v)) else none)=K v:=rfl
theorem step2 {α:Type} (v u:AV) (fr:Bool) (K:AV→AV→Option α):(some (⟨[v,u],[],fr⟩:Res)).bind (fun r=>nilV r.outs (consV r.vals fun v vs=>consV vs fun u us=>nilV us (K v u)))=K v u:=rfl
theorem sha_runs {b:List UInt8} (hb:b.length≤1152921504606840000):RunsX 135 [.str b] ⟨[.blob (hashV b)],[],false⟩ :=
  Evt.succ ((Evt.ge (b.length+6000)).mono fun n hn=>sha_at n hb hn)
theorem refSha_runs {b:List UInt8} (hb:b.length≤1152921504606840000):RunsX 91 [.str b] ⟨[.blob (hashV b)],[],false⟩ :=
  Evt.succ ((Evt.ge (b.length+6000)).mono fun n hn=>refSha_at n hb hn)
def leafT (s:List UInt8):List UInt8:=[0]++s
def nodeT (a b:List UInt8):List UInt8:=[1]++a++b
def rootT (n:Nat) (h:List UInt8):List UInt8:=[2]++bs (BitVec.ofNat 64 n) 8++h
def leafH (s:List UInt8):List UInt8:=hashV (leafT s)
def nodeH (a b:List UInt8):List UInt8:=hashV (nodeT a b)
def rootH (n:Nat) (h:List UInt8):List UInt8:=hashV (rootT n h)
theorem ext_join (l:List AV) (hl:l.length≤1048576) (hb:(Lib.join (l.map AV.toStr) []).length≤140737488355328) (n:Nat):runE G ext n 172 [.slice l,.str []]=some ⟨[.str (Lib.join (l.map AV.toStr) [])],[],false⟩:=by
  refine ext_at ?_ n
  show joinX [.slice l,.str []]=_
  unfold joinX
  simp only [toSlice_s,toStr_s]
  rw [show Nat.ble l.length 1048576=true from Nat.ble_eq_true_of_le hl,show Nat.ble (Lib.join (l.map AV.toStr) []).length 140737488355328=true from Nat.ble_eq_true_of_le hb]
  rfl
theorem join1 (a:List UInt8):Lib.join ([AV.str a].map AV.toStr) []=a:=by simp [Lib.join,List.intercalate,AV.toStr]
theorem join2 (a b:List UInt8):Lib.join ([AV.str a,AV.str b].map AV.toStr) []=a++b:=by simp [Lib.join,List.intercalate,AV.toStr]
theorem text_at (n:Nat) (t:Int) (l:List AV) (hl:l.length≤1048576) (hb:(Lib.join (l.map AV.toStr) []).length≤140737488355328):runE G ext (n+1) 157 [.int t,.slice l]=some ⟨[.str (bytesOf [.int t]++Lib.join (l.map AV.toStr) [])],[],false⟩:=by
  rw [f157_run,f157_eq,ext_join l hl hb,step1,toStr_s,show Nat.ble ((bytesOf [.int t]).length+(Lib.join (l.map AV.toStr) []).length) maxLen=true from Nat.ble_eq_true_of_le (by rw [maxLen_eq]; simp [bytesOf]; omega),cond_true]
  rfl
theorem leafText_at (n:Nat) {s:List UInt8} (hs:s.length≤140737488355328):runE G ext (n+2) 150 [.str s]=some ⟨[.str (leafT s)],[],false⟩:=by
  have h:=text_at n 0 [.str s] (by simp) (by rw [join1]; exact hs)
  rw [join1,show bytesOf [.int 0]=[0] by decide +kernel] at h
  rw [f150_run,f150_eq,h,step1]
  rfl
theorem raw32 {a:List UInt8} (h:a.length=32):bytesOf (List.drop 0 (List.take 32 (ofBytes a)))=a:=by
  rw [List.drop_zero,List.take_of_length_le (by simp [ofBytes,h])]
  exact bytesOf_B a
theorem nodeText_at (n:Nat) {a b:List UInt8} (ha:a.length=32) (hb:b.length=32):runE G ext (n+2) 166 [.blob a,.blob b]=some ⟨[.str (nodeT a b)],[],false⟩:=by
  have h:=text_at n 1 [.str a,.str b] (by simp) (by rw [join2]; simp; omega)
  rw [join2,show bytesOf [.int 1]=[1] by decide +kernel] at h
  rw [f166_run,f166_eq,raw32 ha,raw32 hb,h,step1,toStr_s,← List.append_assoc]
  rfl
theorem put64_at (m:Nat) (hm:2000≤m) (x:BitVec 64):runE G ext (m+2) 138 [.int (U x)]=some ⟨[.str (bs x 8)],[],false⟩:=by
  have h:runE G ext (m+1) 158 [.int (U x),.int 8]=some ⟨[.str (bs x 8)],[],false⟩:=put_at m hm x (m:=8) (by omega)
  rw [f138_run,f138_eq,h,step1]
  rfl
theorem rootText_at (m:Nat) (hm:2000≤m) (n:Nat) {a:List UInt8} (ha:a.length=32):runE G ext (m+3) 184 [.int (U (BitVec.ofNat 64 n)),.blob a]=some ⟨[.str (rootT n a)],[],false⟩:=by
  have h:=text_at (m+1) 2 [.str (bs (BitVec.ofNat 64 n) 8),.str a] (by simp) (by rw [join2]; simp [bs_len]; omega)
  rw [join2,show bytesOf [.int 2]=[2] by decide +kernel] at h
  rw [f184_run,f184_eq,put64_at m hm,step1,raw32 ha,toStr_s,h,step1,toStr_s,← List.append_assoc]
  rfl
theorem leafT_len (s:List UInt8):(leafT s).length=s.length+1:=by simp [leafT]
theorem nodeT_len {a b:List UInt8} (ha:a.length=32) (hb:b.length=32):(nodeT a b).length=65:=by simp [nodeT,ha,hb]
theorem rootT_len (n:Nat) {a:List UInt8} (ha:a.length=32):(rootT n a).length=41:=by simp [rootT,ha,bs_len]
theorem leafSum_runs {s:List UInt8} (hs:s.length≤140737488355328):RunsX 128 [.str s] ⟨[.blob (leafH s)],[],false⟩:=by
  refine Evt.succ (((sha_runs (b:=leafT s) (by rw [leafT_len]; omega)).and (Evt.ge 10)).mono fun n hn=>?_)
  obtain ⟨m,rfl⟩:∃ m,n=m+2:=⟨n-2,by omega⟩
  rw [f128_run,f128_eq,leafText_at m hs,step1,toStr_s,hn.1,step1]
  rfl
theorem nodeSum_runs {a b:List UInt8} (ha:a.length=32) (hb:b.length=32):RunsX 149 [.blob a,.blob b] ⟨[.blob (nodeH a b)],[],false⟩:=by
  refine Evt.succ (((sha_runs (b:=nodeT a b) (by rw [nodeT_len ha hb]; omega)).and (Evt.ge 10)).mono fun n hn=>?_)
  obtain ⟨m,rfl⟩:∃ m,n=m+2:=⟨n-2,by omega⟩
  rw [f149_run,f149_eq,nodeText_at m ha hb,step1,toStr_s,hn.1,step1]
  rfl
theorem rootSum_runs (k:Nat) {a:List UInt8} (ha:a.length=32):RunsX 175 [.int (U (BitVec.ofNat 64 k)),.blob a] ⟨[.blob (rootH k a)],[],false⟩:=by
  refine Evt.succ (((sha_runs (b:=rootT k a) (by rw [rootT_len k ha]; omega)).and (Evt.ge 3000)).mono fun n hn=>?_)
  obtain ⟨m,rfl⟩:∃ m,n=m+3:=⟨n-3,by omega⟩
  rw [f175_run,f175_eq,rootText_at m (by omega) k ha,step1,toStr_s,hn.1,step1]
  rfl
theorem setB {l:List UInt8} {m:Nat} (v:UInt8):(B l++List.replicate (m+1) (AV.int 0)).set l.length (.int (v.toNat:Int))=B (l++[v])++List.replicate m (.int 0):=by
  have hl:(B l).length=l.length:=by simp [B]
  rw [List.set_append_right _ _ (by omega),hl,Nat.sub_self,List.replicate_succ,List.set_cons_zero]
  simp [B]
theorem raw_l0 (run:Run) (n:Nat) {a:List UInt8} (ha:a.length=32):∀ (j k i:Nat),i+j=32→j < k →
    f109_l0 run n k (i:Int) a (B (a.take i)++List.replicate (32-i) (.int 0))=some ⟨[.str a],[],false⟩:=by
  intro j
  induction j with
  | zero =>
    intro k i hi hk
    obtain ⟨k,rfl⟩:∃ j,k=j+1:=⟨k-1,by omega⟩
    rw [Nat.add_zero] at hi
    subst hi
    rw [f109_l0_eq,ltI_f (by omega),cond_false,Nat.sub_self,List.replicate_zero,List.append_nil,List.take_of_length_le (l:=a) (i:=32) (by omega),List.drop_zero,List.take_of_length_le (by simp [B,ha]),bytesOf_B]
    rfl
  | succ j ih =>
    intro k i hi hk
    obtain ⟨k,rfl⟩:∃ j,k=j+1:=⟨k-1,by omega⟩
    have ih':=ih k (i+1) (by omega) (by omega)
    rw [show ((i+1:Nat):Int)=(i:Int)+1 by omega] at ih'
    have hl:(a.take i).length=i:=by simp; omega
    have e:=setB (l:=a.take i) (m:=32-(i+1)) (a.getD i 0)
    rw [hl,show 32-(i+1)+1=32-i by omega,show a.take i++[a.getD i 0]=a.take (i+1) from by rw [List.take_succ_eq_append_getElem (by omega)]; simp [show i < a.length by omega]] at e
    rw [f109_l0_eq,ltI_t (by omega),cond_true,inR_nat (by omega),cond_true,cond_true,w64 (by omega) (by omega),Int.toNat_natCast,Nat.zero_add,e]
    exact ih'
theorem raw_at (n:Nat) (hn:100≤n) {a:List UInt8} (ha:a.length=32):runE G ext (n+1) 109 [.blob a]=some ⟨[.str a],[],false⟩:=by
  rw [f109_run,f109_eq]
  exact raw_l0 _ _ ha 32 n 0 (by omega) (by omega)
theorem refByte0 (n:Nat) (c:Int) (v:UInt8) (h:bytesOf [.int (IntKind.wrap .u8 c)]=[v]):runE G ext (n+1) 122 [.int c]=some ⟨[.str [v]],[],false⟩:=by rw [refByte_at,h]
theorem refLeafText_at (n:Nat) {s:List UInt8} (hs:s.length≤140737488355328):runE G ext (n+2) 130 [.str s]=some ⟨[.str (leafT s)],[],false⟩:=by
  rw [f130_run,f130_eq,refByte0 n 0 0 (by decide +kernel),step1,toStr_s,show Nat.ble ([(0:UInt8)].length+s.length) maxLen=true from Nat.ble_eq_true_of_le (by rw [maxLen_eq]; simp; omega),cond_true]
  rfl
theorem refNodeText_at (n:Nat) (hn:100≤n) {a b:List UInt8} (ha:a.length=32) (hb:b.length=32):runE G ext (n+2) 151 [.blob a,.blob b]=some ⟨[.str (nodeT a b)],[],false⟩:=by
  rw [f151_run,f151_eq,refByte0 n 1 1 (by decide +kernel),step1,raw_at n hn ha,step1,toStr_s,toStr_s,show Nat.ble ([(1:UInt8)].length+a.length) maxLen=true from Nat.ble_eq_true_of_le (by rw [maxLen_eq]; simp; omega),cond_true,
    raw_at n hn hb,step1,toStr_s,show Nat.ble (([(1:UInt8)]++a).length+b.length) maxLen=true from Nat.ble_eq_true_of_le (by rw [maxLen_eq]; simp; omega),cond_true]
  rfl
theorem refRootText_at (n:Nat) (hn:2000≤n) (k:Nat) {a:List UInt8} (ha:a.length=32):runE G ext (n+3) 165 [.int (U (BitVec.ofNat 64 k)),.blob a]=some ⟨[.str (rootT k a)],[],false⟩:=by
  have hp:runE G ext (n+2) 121 [.int (U (BitVec.ofNat 64 k)),.int 8]=some ⟨[.str (bs (BitVec.ofNat 64 k) 8)],[],false⟩:=refPut_at n hn _ (m:=8) (by omega)
  rw [f165_run,f165_eq,refByte0 (n+1) 2 2 (by decide +kernel),step1,hp,step1,toStr_s,toStr_s,show Nat.ble ([(2:UInt8)].length+(bs (BitVec.ofNat 64 k) 8).length) maxLen=true from Nat.ble_eq_true_of_le (by rw [maxLen_eq,bs_len]; simp),cond_true,
    raw_at (n+1) (by omega) ha,step1,toStr_s,show Nat.ble (([(2:UInt8)]++bs (BitVec.ofNat 64 k) 8).length+a.length) maxLen=true from Nat.ble_eq_true_of_le (by rw [maxLen_eq]; simp [bs_len]; omega),cond_true]
  rfl
theorem refLeaf_runs {s:List UInt8} (hs:s.length≤140737488355328):RunsX 108 [.str s] ⟨[.blob (leafH s)],[],false⟩:=by
  refine Evt.succ (((refSha_runs (b:=leafT s) (by rw [leafT_len]; omega)).and (Evt.ge 10)).mono fun n hn=>?_)
  obtain ⟨m,rfl⟩:∃ m,n=m+2:=⟨n-2,by omega⟩
  rw [f108_run,f108_eq,refLeafText_at m hs,step1,toStr_s,hn.1,step1]
  rfl
theorem refNode_runs {a b:List UInt8} (ha:a.length=32) (hb:b.length=32):RunsX 129 [.blob a,.blob b] ⟨[.blob (nodeH a b)],[],false⟩:=by
  refine Evt.succ (((refSha_runs (b:=nodeT a b) (by rw [nodeT_len ha hb]; omega)).and (Evt.ge 200)).mono fun n hn=>?_)
  obtain ⟨m,rfl⟩:∃ m,n=m+2:=⟨n-2,by omega⟩
  rw [f129_run,f129_eq,refNodeText_at m (by omega) ha hb,step1,toStr_s,hn.1,step1]
  rfl
theorem refRoot_runs (k:Nat) {a:List UInt8} (ha:a.length=32):RunsX 147 [.int (U (BitVec.ofNat 64 k)),.blob a] ⟨[.blob (rootH k a)],[],false⟩:=by
  refine Evt.succ (((refSha_runs (b:=rootT k a) (by rw [rootT_len k ha]; omega)).and (Evt.ge 3000)).mono fun n hn=>?_)
  obtain ⟨m,rfl⟩:∃ m,n=m+3:=⟨n-3,by omega⟩
  rw [f147_run,f147_eq,refRootText_at m (by omega) k ha,step1,toStr_s,hn.1,step1]
  rfl
theorem lv_range:∀ (j:Nat) (n p:Int),1≤p→p < n→1≤lv j n p∧lv j n p < n
  | 0,n,p,h1,h2=>⟨h1,h2⟩
  | j+1,n,p,h1,h2=>by
    simp only [lv]
    split
    · exact lv_range j n (2*p) (by omega) (by assumption)
    · exact ⟨h1,h2⟩
theorem leftV_range {n:Int} (h:2≤n):1≤leftV n∧leftV n < n:=by
  unfold leftV
  rw [if_neg (by omega)]
  exact lv_range 64 n 1 (by omega) (by omega)
theorem pow_step {n p:Int} {j:Nat} (h:n≤p*2^(j+1)):n≤2*p*2^j:=by
  rw [Int.pow_succ,Int.mul_comm (2^j) 2,← Int.mul_assoc,Int.mul_comm p 2] at h
  exact h
theorem left_l0 (run:Run) (m:Nat) (n:Int) (hn:n≤1152921504606846976):∀ (j k:Nat) (p:Int),n≤p*2^j→1≤p→p < n→j < k→f125_l0 run m k n p=some ⟨[.int (lv j n p)],[],false⟩:=by
  intro j
  induction j with
  | zero =>
    intro k p h1 h2 h3 hk
    rw [Int.pow_zero] at h1
    omega
  | succ j ih =>
    intro k p h1 h2 h3 hk
    obtain ⟨k,rfl⟩:∃ j,k=j+1:=⟨k-1,by omega⟩
    have e:Int.tdiv (n-1) 2=(n-1) / 2:=Int.tdiv_eq_ediv_of_nonneg (by omega)
    rw [f125_l0_eq,w64 (x:=n-1) (by omega) (by omega),e,w64 (x:=(n-1) / 2) (by omega) (by omega),w64 (x:=p*2) (by omega) (by omega)]
    simp only [lv]
    by_cases h:2*p < n
    · rw [leI_t (by omega),if_pos h,cond_true,show p*2=2*p by omega]
      exact ih k (2*p) (pow_step h1) (by omega) h (by omega)
    · rw [leI_f (by omega),if_neg h]; rfl
theorem refLeft_l0 (run:Run) (m:Nat) (n:Int) (hn:n≤1152921504606846976):∀ (j k:Nat) (p:Int),n≤p*2^j→1≤p→p < n→j < k→f106_l0 run m k n p (2*p)=some ⟨[.int (lv j n p)],[],false⟩:=by
  intro j
  induction j with
  | zero =>
    intro k p h1 h2 h3 hk
    rw [Int.pow_zero] at h1
    omega
  | succ j ih =>
    intro k p h1 h2 h3 hk
    obtain ⟨k,rfl⟩:∃ j,k=j+1:=⟨k-1,by omega⟩
    rw [f106_l0_eq,w64 (x:=2*p*2) (by omega) (by omega)]
    simp only [lv]
    by_cases h:2*p < n
    · rw [ltI_t h,ltI_t (by omega),if_pos h,cond_true,cond_true,show 2*p*2=2*(2*p) by omega]
      exact ih k (2*p) (pow_step h1) (by omega) h (by omega)
    · rw [ltI_f h,if_neg h]; rfl
theorem left_at (m:Nat) (hm:100≤m) {n:Int} (h2:n≤1152921504606846976):runE G ext (m+1) 125 [.int n]=some ⟨[.int (leftV n)],[],false⟩:=by
  unfold leftV
  rw [f125_run,f125_eq]
  by_cases h:n < 2
  · rw [ltI_t h,if_pos h]; rfl
  · rw [ltI_f h,if_neg h]
    exact left_l0 _ _ n h2 64 m 1 (by rw [Int.one_mul,show (2:Int)^64=18446744073709551616 from rfl]; omega) (by omega) (by omega) (by omega)
theorem refLeft_at (m:Nat) (hm:100≤m) {n:Int} (h2:n≤1152921504606846976):runE G ext (m+1) 106 [.int n]=some ⟨[.int (leftV n)],[],false⟩:=by
  unfold leftV
  obtain ⟨m,rfl⟩:∃ j,m=j+1:=⟨m-1,by omega⟩
  rw [f106_run,f106_eq,f106_l0_eq]
  by_cases h:n < 2
  · rw [if_pos h,ltI_f (by omega)]; rfl
  · rw [ltI_t (by omega),ltI_t (by omega),if_neg h,cond_true,cond_true,w64 (by omega) (by omega),show (1:Int)*2=2*1 by omega]
    exact refLeft_l0 _ _ n h2 64 m 1 (by rw [Int.one_mul,show (2:Int)^64=18446744073709551616 from rfl]; omega) (by omega) (by omega) (by omega)
def Blob32 (l:List AV):Prop:=∀ y∈l,∃ b,y=.blob b∧b.length=32
def zero32:List UInt8:=[0,0,0,0,0,0,0,0,0,0,0,0,0,0,0,0,0,0,0,0,0,0,0,0,0,0,0,0,0,0,0,0]
def topV:Nat→List AV→List UInt8
  | 0,_=>zero32
  | k+1,l=>if l.length=0 then zero32 else if l.length=1 then (nth l 0).toBlob else nodeH (topV k (l.take (leftV l.length).toNat)) (topV k (l.drop (leftV l.length).toNat))
theorem topV_len:∀ (k:Nat) (l:List AV),Blob32 l→(topV k l).length=32
  | 0,_,_=>rfl
  | k+1,l,h=>by
    simp only [topV]
    split
    · rfl
    · split
      · rename_i h1
        obtain ⟨b,hb,hl⟩:=h l[0] (List.getElem_mem _)
        rw [nth_lt (by omega),hb]; exact hl
      · exact hashV_len _
theorem top_runs:∀ (k:Nat) (l:List AV),l.length≤k→l.length≤1152921504606846976→Blob32 l→RunsX 126 [.slice l] ⟨[.blob (topV k l)],[],false⟩
  | 0,l,hk,_,_=>by
    refine Evt.succ (.of fun n=>?_)
    rw [f126_run,f126_eq,eqI_t (by omega)]; rfl
  | k+1,l,hk,hl,h=>by
    simp only [topV]
    by_cases h0:l.length=0
    · refine Evt.succ (.of fun n=>?_)
      rw [if_pos h0,f126_run,f126_eq,eqI_t (by omega)]; rfl
    · by_cases h1:l.length=1
      · refine Evt.succ (.of fun n=>?_)
        rw [if_neg h0,if_pos h1,f126_run,f126_eq,eqI_f (by omega),eqI_t (by omega),inR_yes (by omega) (by omega)]; rfl
      · rw [if_neg h0,if_neg h1]
        obtain ⟨p1,p2⟩:=leftV_range (n:=(l.length:Int)) (by omega)
        have pe:(leftV (l.length:Int))=(((leftV (l.length:Int)).toNat:Nat):Int):=by omega
        have hL:=fun m hm=>left_at m hm (n:=(l.length:Int)) (by omega)
        generalize (leftV (l.length:Int)).toNat=p at pe
        rw [pe] at hL p1 p2
        have ha:Blob32 (l.take p):=fun y hy=>h y (List.mem_of_mem_take hy)
        have hb:Blob32 (l.drop p):=fun y hy=>h y (List.mem_of_mem_drop hy)
        have r1:=top_runs k (l.take p) (by simp; omega) (by simp; omega) ha
        have r2:=top_runs k (l.drop p) (by simp; omega) (by simp; omega) hb
        have r3:=nodeSum_runs (topV_len k _ ha) (topV_len k _ hb)
        refine Evt.succ ((((r1.and r2).and r3).and (Evt.ge 200)).mono fun n hn=>?_)
        obtain ⟨⟨⟨g1,g2⟩,g3⟩,g4⟩:=hn
        obtain ⟨m,rfl⟩:∃ m,n=m+2:=⟨n-2,by omega⟩
        have hp:runE G ext (m+2) 148 [.slice l]=some ⟨[.slice (l.take p),.slice (l.drop p)],[],false⟩:=by
          have b1:boundsOk 0 (p:Int) (l.length:Int) (l.length:Int)=true:=by simp [boundsOk]; omega
          have b2:boundsOk (p:Int) (l.length:Int) (l.length:Int) (l.length:Int)=true:=by simp [boundsOk]; omega
          rw [f148_run,f148_eq,hL m (by omega),step1,toInt_i,b1,b2,Int.toNat_natCast,Int.toNat_natCast,List.drop_zero,List.take_length]
          rfl
        rw [f126_run,f126_eq,eqI_f (by omega),eqI_f (by omega),cond_false,cond_false,hp,step2,toSlice_s,toSlice_s,g1,step1,g2,step1,toBlob_b,toBlob_b,g3,step1]
        rfl
theorem refTop_runs:∀ (k:Nat) (l:List AV),l.length≤k→l.length≤1152921504606846976→Blob32 l→RunsX 107 [.slice l] ⟨[.blob (topV k l)],[],false⟩
  | 0,l,hk,_,_=>by
    refine Evt.succ (.of fun n=>?_)
    rw [f107_run,f107_eq,eqI_t (by omega)]; rfl
  | k+1,l,hk,hl,h=>by
    simp only [topV]
    by_cases h0:l.length=0
    · refine Evt.succ (.of fun n=>?_)
      rw [if_pos h0,f107_run,f107_eq,eqI_t (by omega)]; rfl
    · by_cases h1:l.length=1
      · refine Evt.succ (.of fun n=>?_)
        rw [if_neg h0,if_pos h1,f107_run,f107_eq,eqI_f (by omega),eqI_t (by omega),inR_yes (by omega) (by omega)]; rfl
      · rw [if_neg h0,if_neg h1]
        obtain ⟨p1,p2⟩:=leftV_range (n:=(l.length:Int)) (by omega)
        have pe:(leftV (l.length:Int))=(((leftV (l.length:Int)).toNat:Nat):Int):=by omega
        have hL:=fun m hm=>refLeft_at m hm (n:=(l.length:Int)) (by omega)
        generalize (leftV (l.length:Int)).toNat=p at pe
        rw [pe] at hL p1 p2
        have ha:Blob32 (l.take p):=fun y hy=>h y (List.mem_of_mem_take hy)
        have hb:Blob32 (l.drop p):=fun y hy=>h y (List.mem_of_mem_drop hy)
        have r1:=refTop_runs k (l.take p) (by simp; omega) (by simp; omega) ha
        have r2:=refTop_runs k (l.drop p) (by simp; omega) (by simp; omega) hb
        have r3:=refNode_runs (topV_len k _ ha) (topV_len k _ hb)
        refine Evt.succ ((((r1.and r2).and r3).and (Evt.ge 200)).mono fun n hn=>?_)
        obtain ⟨⟨⟨g1,g2⟩,g3⟩,g4⟩:=hn
        obtain ⟨m,rfl⟩:∃ m,n=m+1:=⟨n-1,by omega⟩
        have b1:boundsOk 0 (p:Int) (l.length:Int) (l.length:Int)=true:=by simp [boundsOk]; omega
        have b2:boundsOk (p:Int) (l.length:Int) (l.length:Int) (l.length:Int)=true:=by simp [boundsOk]; omega
        rw [f107_run,f107_eq,eqI_f (by omega),eqI_f (by omega),cond_false,cond_false,hL m (by omega),step1,toInt_i,b1,b2,Int.toNat_natCast,Int.toNat_natCast,List.drop_zero,List.take_length,Bool.and_true,cond_true,g1,step1,cond_true,g2,step1,toBlob_b,toBlob_b,g3,step1]
        rfl
def leavesV (l:List AV):List AV:=l.map fun y=>.blob (leafH y.toStr)
theorem leavesV_len (l:List AV):(leavesV l).length=l.length:=by simp [leavesV]
theorem leavesV_blob (l:List AV):Blob32 (leavesV l):=by
  intro y hy
  obtain ⟨x,_,rfl⟩:=List.mem_map.1 hy
  exact ⟨_,rfl,hashV_len _⟩
theorem leavesV_take {l:List AV} {i:Nat} (h:i < l.length):leavesV (l.take i)++[.blob (leafH (nth l i).toStr)]=leavesV (l.take (i+1)):=by
  rw [List.take_succ_eq_append_getElem h,nth_lt h]; simp only [leavesV,List.map_append,List.map_cons,List.map_nil]
def Short (l:List AV):Prop:=∀ i,i < l.length→(nth l i).toStr.length≤140737488355328
theorem leaves_runs {l:List AV} (hl:l.length≤100000) (hs:Short l):RunsX 103 [.slice l] ⟨[.slice (leavesV l)],[],true⟩:=by
  have hall:=Evt.all l.length fun i hi=>leafSum_runs (hs i hi)
  have h61:RunsX 127 [.slice l,.fn 128] ⟨[.slice (leavesV l)],[],true⟩:=by
    refine Evt.succ ((hall.and (Evt.ge (l.length+1))).mono fun n hn=>?_)
    have key:∀ (j k i:Nat),i+j=l.length→j < k→f127_s128_l0 (runE G ext n) n k (leavesV (l.take i)) l (l.length:Int) (i:Int)=some ⟨[.slice (leavesV l)],[],true⟩:=by
      intro j
      induction j with
      | zero =>
        intro k i hi hk
        obtain ⟨k,rfl⟩:∃ j,k=j+1:=⟨k-1,by omega⟩
        rw [f127_s128_l0_eq,ltI_f (by omega),cond_false,List.take_of_length_le (by omega)]
        rfl
      | succ j ih =>
        intro k i hi hk
        obtain ⟨k,rfl⟩:∃ j,k=j+1:=⟨k-1,by omega⟩
        have ih':=ih k (i+1) (by omega) (by omega)
        rw [show ((i+1:Nat):Int)=(i:Int)+1 by omega,← leavesV_take (by omega)] at ih'
        rw [f127_s128_l0_eq,ltI_t (by omega),cond_true,inR_nat (by omega),cond_true,Int.toNat_natCast,hn.1 i (by omega),step1,toBlob_b,show Nat.ble (((leavesV (l.take i)).length+1)*32) 140737488355328=true from Nat.ble_eq_true_of_le (by rw [leavesV_len]; simp; omega),cond_true,w64 (by omega) (by omega)]
        exact ih'
    rw [f127_s128_run,f127_s128_eq]
    exact key l.length n 0 (by omega) (by omega)
  refine Evt.succ (h61.mono fun n hn=>?_)
  rw [f103_run,f103_eq,hn,step1f]
  rfl
theorem refLeaves_runs {l:List AV} (hl:l.length≤100000) (hs:Short l):RunsX 78 [.slice l] ⟨[.slice (leavesV l)],[],true⟩:=by
  have hall:=Evt.all l.length fun i hi=>refLeaf_runs (hs i hi)
  refine Evt.succ ((hall.and (Evt.ge (l.length+1))).mono fun n hn=>?_)
  have key:∀ (j k i:Nat),i+j=l.length→j < k→f78_l0 (runE G ext n) n k l (leavesV (l.take i)) (i:Int)=some ⟨[.slice (leavesV l)],[],true⟩:=by
    intro j
    induction j with
    | zero =>
      intro k i hi hk
      obtain ⟨k,rfl⟩:∃ j,k=j+1:=⟨k-1,by omega⟩
      rw [f78_l0_eq,ltI_f (by omega),cond_false,List.take_of_length_le (by omega)]
      rfl
    | succ j ih =>
      intro k i hi hk
      obtain ⟨k,rfl⟩:∃ j,k=j+1:=⟨k-1,by omega⟩
      have ih':=ih k (i+1) (by omega) (by omega)
      rw [show ((i+1:Nat):Int)=(i:Int)+1 by omega,← leavesV_take (by omega)] at ih'
      rw [f78_l0_eq,ltI_t (by omega),cond_true,inR_nat (by omega),cond_true,Int.toNat_natCast,hn.1 i (by omega),step1,toBlob_b,show Nat.ble (((leavesV (l.take i)).length+1)*32) 140737488355328=true from Nat.ble_eq_true_of_le (by rw [leavesV_len]; simp; omega),cond_true,w64 (by omega) (by omega)]
      exact ih'
  rw [f78_run,f78_eq]
  exact key l.length n 0 (by omega) (by omega)
def rootV (l:List AV):List UInt8:=rootH l.length (topV l.length (leavesV l))
theorem wrapLen {n:Nat} (_h:n≤1152921504606846976):IntKind.wrap .u64 (n:Int)=U (BitVec.ofNat 64 n):=by
  unfold U; rw [wrap64,BitVec.toNat_ofNat]; omega
theorem root_runs {l:List AV} (hl:l.length≤100000) (hs:Short l):RunsX 164 [.slice l] ⟨[.blob (rootV l)],[],false⟩:=by
  refine Evt.succ ((((leaves_runs hl hs).and (top_runs l.length (leavesV l) (by rw [leavesV_len]; omega) (by rw [leavesV_len]; omega) (leavesV_blob l))).and (rootSum_runs l.length (topV_len l.length _ (leavesV_blob l)))).mono fun n hn=>?_)
  obtain ⟨⟨h1,h2⟩,h3⟩:=hn
  rw [f164_run,f164_eq,h1,step1f,toSlice_s,h2,step1,wrapLen (by omega),toBlob_b,h3,step1]
  rfl
theorem refTreeRoot_runs {l:List AV} (hl:l.length≤100000) (hs:Short l):RunsX 124 [.slice l] ⟨[.blob (rootV l)],[],false⟩:=by
  refine Evt.succ ((((refLeaves_runs hl hs).and (refTop_runs l.length (leavesV l) (by rw [leavesV_len]; omega) (by rw [leavesV_len]; omega) (leavesV_blob l))).and (refRoot_runs l.length (topV_len l.length _ (leavesV_blob l)))).mono fun n hn=>?_)
  obtain ⟨⟨h1,h2⟩,h3⟩:=hn
  rw [f124_run,f124_eq,h1,step1f,toSlice_s,h2,step1,wrapLen (by omega),toBlob_b,h3,step1]
  rfl
theorem hashes_l0 (run:Run) (n:Nat) (l:List AV) (hl:l.length≤maxLen):∀ (j k i:Nat),i+j=l.length→j < k→f75_l0 run n k l l (i:Int)=some ⟨[.bool true],[],false⟩:=by
  rw [maxLen_eq] at hl
  intro j
  induction j with
  | zero =>
    intro k i hi hk
    obtain ⟨k,rfl⟩:∃ j,k=j+1:=⟨k-1,by omega⟩
    rw [f75_l0_eq,ltI_f (by omega)]; rfl
  | succ j ih =>
    intro k i hi hk
    obtain ⟨k,rfl⟩:∃ j,k=j+1:=⟨k-1,by omega⟩
    rw [f75_l0_eq,ltI_t (by omega),cond_true,inR_nat (by omega),cond_true,cond_true,eqS_t rfl,not_t,cond_false,w64 (by omega) (by omega)]
    exact ih k (i+1) (by omega) (by omega)
theorem hashes_runs {l:List AV} (hl:l.length≤maxLen):RunsX 75 [.slice l,.slice l] ⟨[.bool true],[],false⟩:=by
  refine Evt.succ ((Evt.ge (l.length+1)).mono fun n hn=>?_)
  rw [f75_run,f75_eq,eqI_t rfl,not_t,cond_false]
  exact hashes_l0 _ _ _ hl l.length n 0 (by omega) (by omega)
end Go.Proofs.YteiahdlklppghaaGreat.Ev

namespace Go.Proofs.YteiahdlklppghaaGreat.Ev
open Go Go.RowKit
theorem step3 {α:Type} (a b c:AV) (fr:Bool) (K:AV→AV→AV→Option α):(some (⟨[a,b,c],[],fr⟩:Res)).bind (fun r=>nilV r.outs (consV r.vals fun v vs=>consV vs fun u us=>consV us fun w ws=>nilV ws (K v u w)))=K a b c:=rfl
theorem fld0 (a:AV) (l:List AV):(AV.agg (a::l)).fld 0=a:=rfl
theorem fld1 (a b:AV) (l:List AV):(AV.agg (a::b::l)).fld 1=b:=rfl
theorem fld2 (a b c:AV) (l:List AV):(AV.agg (a::b::c::l)).fld 2=c:=rfl
theorem fld3 (a b c d:AV) (l:List AV):(AV.agg (a::b::c::d::l)).fld 3=d:=rfl
theorem eqO_same (a:Bool):eqO a a=true:=by cases a <;> rfl
theorem inR_int {i:Int} {n:Nat} (h1:0≤i) (h2:i < n):inR i n=true:=inR_yes h1 h2
end Go.Proofs.YteiahdlklppghaaGreat.Ev

namespace Go.Proofs.YteiahdlklppghaaGreat.Ev
open Go Go.RowKit
def natN (l:List UInt8):Nat:=l.foldl (fun a b=>a*256+b.toNat) 0
theorem natN_snoc (l:List UInt8) (b:UInt8):natN (l++[b])=natN l*256+b.toNat:=by simp [natN]
theorem snoc_ind {P:List UInt8→Prop} (h0:P []) (h1:∀ l b,P l→P (l++[b])) (l:List UInt8):P l:=by
  have:∀ r:List UInt8,P r.reverse:=by
    intro r
    induction r with
    | nil=>exact h0
    | cons b r ih=>rw [List.reverse_cons]; exact h1 _ _ ih
  have:=this l.reverse
  rwa [List.reverse_reverse] at this
theorem natN_lt (l:List UInt8):natN l < 256^l.length:=by
  refine snoc_ind (P:=fun l=>natN l < 256^l.length) (by simp [natN]) (fun l b ih=>?_) l
  rw [natN_snoc,List.length_append,List.length_singleton,Nat.pow_succ]
  have:=b.toNat_lt
  omega
theorem natN_append (x y:List UInt8):natN (x++y)=natN x*256^y.length+natN y:=by
  refine snoc_ind (P:=fun y=>natN (x++y)=natN x*256^y.length+natN y) (by simp [natN]) (fun l b ih=>?_) y
  rw [← List.append_assoc,natN_snoc,ih,natN_snoc,List.length_append,List.length_singleton,Nat.pow_succ,← Nat.mul_assoc,Nat.add_mul]
  omega
theorem natN_get (l:List UInt8):∀ m,m < l.length→natN l / 256^m % 256=(l.getD (l.length-1-m) 0).toNat:=by
  refine snoc_ind (P:=fun l=>∀ m,m < l.length→natN l / 256^m % 256=(l.getD (l.length-1-m) 0).toNat) (fun m h=>by simp at h) (fun l b ih m hm=>?_) l
  have hb:=b.toNat_lt
  rw [natN_snoc,List.length_append,List.length_singleton]
  rw [List.length_append,List.length_singleton] at hm
  cases m with
  | zero =>
    rw [Nat.pow_zero,Nat.div_one,show l.length+1-1-0=l.length by omega]
    simp
  | succ m =>
    rw [Nat.pow_succ,Nat.mul_comm (256^m),← Nat.div_div_eq_div_mul,show (natN l*256+b.toNat) / 256=natN l by omega,ih m (by omega),show l.length+1-1-(m+1)=l.length-1-m by omega]
    simp [List.getD,List.getElem?_append_left (show l.length-1-m < l.length by omega)]
def lb (N j:Nat):BitVec 64:=BitVec.ofNat 64 (N / 18446744073709551616^j)
theorem lb_toNat (N j:Nat):(lb N j).toNat=N / 18446744073709551616^j % 18446744073709551616:=by unfold lb; rw [BitVec.toNat_ofNat]
def limbs (N:Nat):List AV:=[.int (U (lb N 0)),.int (U (lb N 1)),.int (U (lb N 2)),.int (U (lb N 3))]
theorem limbs_fld (N:Nat) {j:Nat} (h:j < 4):AV.fld (.agg (limbs N)) j=.int (U (lb N j)):=by
  match j,h with
  | 0,_=>rfl
  | 1,_=>rfl
  | 2,_=>rfl
  | 3,_=>rfl
def cmpN (a b:Nat):Int:=if a < b then -1 else if b < a then 1 else 0
theorem cmpN_le (a b:Nat):leI (cmpN a b) 0=decide (a≤b):=by
  unfold cmpN
  split
  · rw [leI_t (by omega),decide_eq_true (by omega)]
  · split
    · rw [leI_f (by omega),decide_eq_false (by omega)]
    · rw [leI_t (by omega),decide_eq_true (by omega)]
theorem cmpN_gt (a b:Nat):ltI 0 (cmpN a b)=decide (b < a):=by
  unfold cmpN
  split
  · rw [ltI_f (by omega),decide_eq_false (by omega)]
  · split
    · rw [ltI_t (by omega),decide_eq_true (by omega)]
    · rw [ltI_f (by omega),decide_eq_false (by omega)]
def Big:Nat:=115792089237316195423570985008687907853269984665640564039457584007913129639936
theorem lb_all {a:Nat} (h:a < Big):a=(lb a 0).toNat+18446744073709551616*(lb a 1).toNat+340282366920938463463374607431768211456*(lb a 2).toNat+6277101735386680763835789423207666416102355444464034512896*(lb a 3).toNat:=by
  rw [lb_toNat,lb_toNat,lb_toNat,lb_toNat]
  simp only [Nat.reducePow]
  unfold Big at h
  omega
theorem natN_big {l:List UInt8} (h:l.length=32):natN l < Big:=by
  have:=natN_lt l
  rw [h] at this
  unfold Big
  exact this
theorem big_pow:Big=18446744073709551616^4:=by decide
theorem shr_key (A b:Nat) (h:b≤63):A / 2^b % 18446744073709551616=(A % 18446744073709551616) / 2^b+2^(64-b)*((A / 18446744073709551616 % 18446744073709551616) % 2^b):=by
  have hMK:2^b*2^(64-b)=18446744073709551616:=by rw [← Nat.pow_add,show b+(64-b)=64 by omega]
  have hM:0 < 2^b:=Nat.two_pow_pos b
  have hK:0 < 2^(64-b):=Nat.two_pow_pos _
  generalize 2^b=M at *
  generalize 2^(64-b)=K at *
  rw [← hMK]
  have e1:A / M=K*(A / (M*K))+A % (M*K) / M:=by
    conv=>lhs; rw [← Nat.div_add_mod A (M*K),Nat.mul_assoc,Nat.mul_add_div hM]
  have e2:A % (M*K) / M < K:=Nat.div_lt_of_lt_mul (Nat.mod_lt _ (Nat.mul_pos hM hK))
  have e3:A / (M*K) % (M*K) % M=A / (M*K) % M:=Nat.mod_mul_right_mod _ _ _
  rw [e3,e1]
  generalize A / (M*K)=q
  generalize A % (M*K) / M=t at *
  have e4:K*q+t=M*K*(q / M)+(K*(q % M)+t):=by
    have:=Nat.div_add_mod q M
    calc K*q+t=K*(M*(q / M)+q % M)+t:=by rw [this]
      _=M*K*(q / M)+(K*(q % M)+t):=by rw [Nat.mul_add,← Nat.mul_assoc,Nat.mul_comm K M,Nat.add_assoc]
  have e5:K*(q % M)+t < M*K:=by
    have h1:q % M < M:=Nat.mod_lt _ hM
    have h2:K*(q % M)+K≤K*M:=by
      have:K*(q % M+1)≤K*M:=Nat.mul_le_mul_left K h1
      rwa [Nat.mul_add,Nat.mul_one] at this
    rw [Nat.mul_comm M K]
    omega
  rw [e4,Nat.mul_add_mod,Nat.mod_eq_of_lt e5]
  omega
theorem lb_shr (a n i:Nat) (hb:1≤n % 64):lb (a / 2^n) i=(lb a (i+n / 64) >>> (n % 64)) ||| (lb a (i+n / 64+1) <<< (64-n % 64)):=by
  have hn:2^n=18446744073709551616^(n / 64)*2^(n % 64):=by
    have:=Nat.div_add_mod n 64
    conv=>lhs; rw [← this,Nat.pow_add,Nat.pow_mul]
  apply BitVec.eq_of_toNat_eq
  rw [BitVec.toNat_or,BitVec.toNat_ushiftRight,BitVec.toNat_shiftLeft,lb_toNat,lb_toNat,lb_toNat,Nat.shiftRight_eq_div_pow,Nat.shiftLeft_eq,hn]
  have h63:n % 64≤63:=by omega
  have e1:a / (18446744073709551616^(n / 64)*2^(n % 64)) / 18446744073709551616^i=a / 18446744073709551616^(i+n / 64) / 2^(n % 64):=by
    rw [Nat.div_div_eq_div_mul,Nat.div_div_eq_div_mul]
    congr 1
    rw [Nat.mul_comm,← Nat.mul_assoc,← Nat.pow_add]
  have e2:a / 18446744073709551616^(i+n / 64+1)=a / 18446744073709551616^(i+n / 64) / 18446744073709551616:=by
    rw [Nat.pow_succ,Nat.div_div_eq_div_mul]
  rw [e1,e2]
  generalize a / 18446744073709551616^(i+n / 64)=A
  generalize hbb:n % 64=b at *
  rw [shr_key A b h63]
  have hMK:2^b*2^(64-b)=18446744073709551616:=by rw [← Nat.pow_add,show b+(64-b)=64 by omega]
  have e3:(A / 18446744073709551616 % 18446744073709551616)*2^(64-b) % 2^64=2^(64-b)*((A / 18446744073709551616 % 18446744073709551616) % 2^b):=by
    rw [show (2:Nat)^64=2^(64-b)*2^b by rw [Nat.mul_comm,hMK],Nat.mul_comm,Nat.mul_mod_mul_left]
  rw [e3]
  have e4:A % 18446744073709551616 / 2^b < 2^(64-b):=Nat.div_lt_of_lt_mul (by rw [hMK]; exact Nat.mod_lt _ (by omega))
  rw [Nat.add_comm,Nat.two_pow_add_eq_or_of_lt e4,Nat.or_comm]
theorem lb_shr0 (a n i:Nat) (hb:n % 64=0):lb (a / 2^n) i=lb a (i+n / 64):=by
  have hn:2^n=18446744073709551616^(n / 64):=by
    have:=Nat.div_add_mod n 64
    rw [hb,Nat.add_zero] at this
    conv=>lhs; rw [← this,Nat.pow_mul]
  unfold lb
  rw [hn,Nat.div_div_eq_div_mul,← Nat.pow_add,Nat.add_comm]
theorem lb_top {a j:Nat} (h:a < Big) (hj:4≤j):lb a j=0:=by
  unfold lb
  rw [Nat.div_eq_of_lt]
  · rfl
  · rw [big_pow] at h
    exact Nat.lt_of_lt_of_le h (Nat.pow_le_pow_right (by omega) hj)
def bitsL (N:Nat):List AV:=(List.range 256).map fun i=>.bool (N.testBit i)
theorem bitsL_len (N:Nat):(bitsL N).length=256:=by simp [bitsL]
theorem bitsL_nth (N:Nat) {i:Nat} (h:i < 256):nth (bitsL N) i=.bool (N.testBit i):=by
  rw [nth_lt (by rw [bitsL_len]; exact h)]
  simp [bitsL]
theorem bit_step (N i:Nat):N / 2^i=2*(N / 2^(i+1))+(N.testBit i).toNat:=by
  rw [Nat.pow_succ,← Nat.div_div_eq_div_mul,Nat.testBit_eq_decide_div_mod_eq]
  by_cases h:N / 2^i % 2=1
  · rw [decide_eq_true h]; show _=_+1; omega
  · rw [decide_eq_false h]; show _=_+0; omega
theorem testBit_shift (N n i:Nat):(N / 2^n).testBit i=N.testBit (i+n):=by
  rw [← Nat.shiftRight_eq_div_pow,Nat.testBit_shiftRight,Nat.add_comm]
theorem testBit_big {N i:Nat} (h:N < Big) (hi:256≤i):N.testBit i=false:=by
  refine Nat.testBit_lt_two_pow (Nat.lt_of_lt_of_le h ?_)
  calc Big=2^256:=by decide
    _≤2^i:=Nat.pow_le_pow_right (by omega) hi
end Go.Proofs.YteiahdlklppghaaGreat.Ev

namespace Go.Proofs.YteiahdlklppghaaGreat.Ev
open Go Go.RowKit
theorem of64 (x:Nat):BitVec.ofInt 64 (x:Int)=BitVec.ofNat 64 x:=BitVec.ofInt_natCast 64 x
theorem mask32 {x:Nat} (h:x < 18446744073709551616):IntKind.wrap .u64 (BitVec.toNat (BitVec.ofInt 64 (x:Int) &&& BitVec.ofInt 64 4294967295))=((x % 4294967296:Nat):Int):=by
  rw [show (4294967295:Int)=((4294967295:Nat):Int) from rfl,of64,of64,BitVec.toNat_and,BitVec.toNat_ofNat,BitVec.toNat_ofNat,wrap64]
  have e:x % 2^64 &&& 4294967295 % 2^64=x % 4294967296:=by
    rw [Nat.mod_eq_of_lt (show x < 2^64 by omega),show 4294967295 % 2^64=2^32-1 by decide,Nat.and_two_pow_sub_one_eq_mod]
  rw [e]; omega
theorem join32 {h l:Nat} (hh:h < 4294967296) (hl:l < 4294967296):IntKind.wrap .u64 (BitVec.toNat (BitVec.ofInt 64 (IntKind.wrap .u64 ((h:Int)*2^32)) ||| BitVec.ofInt 64 (l:Int)))=((h*4294967296+l:Nat):Int):=by
  have e0:IntKind.wrap .u64 ((h:Int)*2^32)=((h*4294967296:Nat):Int):=by rw [wrap64,show (2:Int)^32=4294967296 by decide]; omega
  rw [e0,of64,of64,BitVec.toNat_or,BitVec.toNat_ofNat,BitVec.toNat_ofNat,wrap64,Nat.mod_eq_of_lt (show h*4294967296 < 2^64 by omega),Nat.mod_eq_of_lt (show l < 2^64 by omega)]
  have:=Nat.two_pow_add_eq_or_of_lt (i:=32) (b:=l) (by omega) h
  rw [show (2:Nat)^32*h=h*4294967296 by rw [Nat.mul_comm]] at this
  rw [← this]; omega
theorem fdiv32 (x:Nat):Int.fdiv (x:Int) (2^32)=((x / 4294967296:Nat):Int):=by
  rw [show (2:Int)^32=((4294967296:Nat):Int) by decide,← Int.ofNat_fdiv]
theorem wN {x:Nat} (h:x < 18446744073709551616):IntKind.wrap .u64 (x:Int)=(x:Int):=by rw [wrap64]; omega
def five (p:Nat):List AV:=[.int (p:Int),.int 0,.int 0,.int 0,.int 0]
theorem half_runs {p y:Nat} (hp:p < 4294967296) (hy:y < 4294967296):RunsX 194 [.agg (five p),.int (y:Int)] ⟨[.agg (five (p*y)),.bool true],[],false⟩:=by
  have hpy:p*y < 18446744073709551616:=by
    have:p*y≤4294967295*4294967295:=Nat.mul_le_mul (by omega) (by omega)
    omega
  have key:∀ (run:Run) (n k i:Nat) (o2 o4 o6:List AV),i < 5→AV.fld (.agg o2) i=.int 0→f194_l0 run n (k+1) (y:Int) 0 (i:Int) o2 o4 o6=f194_l0 run n k (y:Int) 0 ((i+1:Nat):Int) o2 o4 (o6.set i (.int 0)):=by
    intro run n k i o2 o4 o6 hi h0
    have m0:IntKind.wrap .u64 (BitVec.toNat (BitVec.ofInt 64 (0:Int) &&& BitVec.ofInt 64 4294967295))=0:=by decide
    have j0:IntKind.wrap .u64 (BitVec.toNat (BitVec.ofInt 64 (IntKind.wrap .u64 (0*2^32)) ||| BitVec.ofInt 64 0))=0:=by decide
    have w0:IntKind.wrap .u64 0=0:=by decide
    have d0:Int.fdiv 0 (2^32)=0:=by decide
    rw [f194_l0_eq,ltI_t (by omega),cond_true,inR_nat hi,cond_true,cond_true,cond_true,Int.toNat_natCast,h0,toInt_i,m0,d0,Int.zero_mul,Int.add_zero,w0,w0,d0,Int.zero_add,w0,m0,j0,d0,w64 (by omega) (by omega),show (i:Int)+1=((i+1:Nat):Int) by omega]
  refine Evt.succ ((Evt.ge 10).mono fun m hm=>?_)
  obtain ⟨k,rfl⟩:∃ k,m=k+6:=⟨m-6,by omega⟩
  rw [f194_run,f194_eq,f194_l0_eq,ltI_t (by omega),cond_true,inR_int (by omega) (by omega),cond_true,cond_true,cond_true]
  have e0:AV.fld (.agg (five p)) (Int.toNat 0)=.int (p:Int):=rfl
  rw [e0,toInt_i,mask32 (by omega),Nat.mod_eq_of_lt hp,fdiv32,Nat.div_eq_of_lt hp,show ((0:Nat):Int)=0 from rfl,Int.zero_mul,Int.add_zero,show IntKind.wrap .u64 0=0 by decide,show ((p:Int)*(y:Int))=((p*y:Nat):Int) by push_cast; rfl,wN hpy,wN hpy,fdiv32,Int.zero_add,wN (show p*y / 4294967296 < 18446744073709551616 by omega),mask32 hpy,join32 (by omega) (by omega),fdiv32,show p*y / 4294967296 / 4294967296=0 by omega,show p*y / 4294967296*4294967296+p*y % 4294967296=p*y by omega,show ((0:Nat):Int)=0 from rfl,w64 (by omega) (by omega),show (0:Int)+1=((1:Nat):Int) from rfl]
  rw [key _ _ (k+4) 1 _ _ _ (by omega) rfl,key _ _ (k+3) 2 _ _ _ (by omega) rfl,key _ _ (k+2) 3 _ _ _ (by omega) rfl,key _ _ (k+1) 4 _ _ _ (by omega) rfl,f194_l0_eq,ltI_f (by omega),cond_false,eqI_t rfl]
  rfl
theorem len_zero:RunsX 196 [.agg (five 0)] ⟨[.int 0],[],false⟩:=RunsX.of_eval 20 (by kernel_rfl)
theorem shl_zero {n:Nat}:RunsX 187 [.agg (five 0),.int (n:Int)] ⟨[.agg (five 0),.bool true],[],false⟩:=by
  refine Evt.succ (len_zero.mono fun m h=>?_)
  rw [f187_run,f187_eq,ltI_f (by omega),cond_false,h,step1,toInt_i,ltI_f (by omega),cond_false,step1,toInt_i,eqI_t rfl,cond_true]
  rfl
theorem add_zero {p:Nat} (hp:p < 18446744073709551616):RunsX 195 [.agg (five p),.agg (five 0)] ⟨[.agg (five p),.bool true],[],false⟩:=by
  have m0:IntKind.wrap .u64 (BitVec.toNat (BitVec.ofInt 64 (0:Int) &&& BitVec.ofInt 64 4294967295))=0:=by decide
  have j0:IntKind.wrap .u64 (BitVec.toNat (BitVec.ofInt 64 (IntKind.wrap .u64 (0*2^32)) ||| BitVec.ofInt 64 0))=0:=by decide
  have w0:IntKind.wrap .u64 0=0:=by decide
  have d0:Int.fdiv 0 (2^32)=0:=by decide
  have key:∀ (run:Run) (n k i:Nat) (o2 o3 o4 o6:List AV),i < 5→AV.fld (.agg o2) i=.int 0→AV.fld (.agg o3) i=.int 0→f195_l0 run n (k+1) 0 (i:Int) o2 o3 o4 o6=f195_l0 run n k 0 ((i+1:Nat):Int) o2 o3 o4 (o6.set i (.int 0)):=by
    intro run n k i o2 o3 o4 o6 hi h0 h1
    rw [f195_l0_eq,ltI_t (by omega),cond_true,inR_nat hi,cond_true,cond_true,cond_true,cond_true,cond_true,Int.toNat_natCast,h0,h1,toInt_i,w64 (x:=(i:Int)+1) (by omega) (by omega),show (i:Int)+1=((i+1:Nat):Int) by omega]
    repeat (first | rw [m0] | rw [d0] | rw [Int.add_zero] | rw [w0] | rw [j0])
  refine Evt.succ ((Evt.ge 10).mono fun m hm=>?_)
  obtain ⟨k,rfl⟩:∃ k,m=k+6:=⟨m-6,by omega⟩
  rw [f195_run,f195_eq,f195_l0_eq,ltI_t (by omega),cond_true,inR_int (by omega) (by omega),cond_true,cond_true,cond_true,cond_true,cond_true]
  have e0:AV.fld (.agg (five p)) (Int.toNat 0)=.int (p:Int):=rfl
  have e1:AV.fld (.agg (five 0)) (Int.toNat 0)=.int 0:=rfl
  rw [e0,e1,toInt_i,toInt_i,mask32 hp,m0,fdiv32 p,d0,Int.add_zero,Int.add_zero]
  rw [Int.add_zero]
  repeat rw [wN (show p % 4294967296 < 18446744073709551616 by omega)]
  rw [fdiv32,show p % 4294967296 / 4294967296=0 by omega,show ((0:Nat):Int)=0 from rfl]
  rw [wN (show p / 4294967296 < 18446744073709551616 by omega),Int.add_zero,wN (show p / 4294967296 < 18446744073709551616 by omega),mask32 (show p % 4294967296 < 18446744073709551616 by omega),Nat.mod_mod,join32 (by omega) (by omega),fdiv32,show p / 4294967296 / 4294967296=0 by omega,show p / 4294967296*4294967296+p % 4294967296=p by omega,show ((0:Nat):Int)=0 from rfl,w64 (by omega) (by omega),show (0:Int)+1=((1:Nat):Int) from rfl]
  rw [key _ _ (k+4) 1 _ _ _ _ (by omega) rfl rfl,key _ _ (k+3) 2 _ _ _ _ (by omega) rfl rfl,key _ _ (k+2) 3 _ _ _ _ (by omega) rfl rfl,key _ _ (k+1) 4 _ _ _ _ (by omega) rfl rfl,f195_l0_eq,ltI_f (by omega),cond_false,eqI_t rfl,not_t,cond_false]
  rfl
theorem mul_runs {p y:Nat} (hp:p < 4294967296) (hy:y < 4294967296):∃ b,RunsX 185 [.agg (five p),.int (y:Int)] ⟨[.agg (five (p*y)),.bool b],[],false⟩:=by
  have hpy:p*y < 18446744073709551616:=by
    have:p*y≤4294967295*4294967295:=Nat.mul_le_mul (by omega) (by omega)
    omega
  have h2:=half_runs hp (show 0 < 4294967296 by omega)
  rw [Nat.mul_zero] at h2
  refine ⟨true,Evt.succ (((half_runs hp hy).and (h2.and ((shl_zero (n:=32)).and (add_zero hpy)))).mono fun m h=>?_)⟩
  obtain ⟨h1,h2,h3,h4⟩:=h
  rw [f185_run,f185_eq,mask32 (by omega),Nat.mod_eq_of_lt hy,h1,step2,toBool_b,not_t,cond_false,fdiv32,Nat.div_eq_of_lt hy,h2,step2,toBool_b,not_t,cond_false,toAgg_a,show (32:Int)=((32:Nat):Int) from rfl,h3,step2,toBool_b,not_t,cond_false,toAgg_a,toAgg_a,h4]
  rfl
theorem lead_runs {x:Nat} (h1:0 < x) (h2:x < 18446744073709551616):∃ r:Nat,r≤63∧RunsX 202 [.int (x:Int)] ⟨[.int (r:Int)],[],false⟩:=by
  have key:∀ (run:Run) (n:Nat) (j i:Nat),i+j=63→∃ r:Nat,r≤63∧∀ k,j < k→f202_l0 run n k (x:Int) (i:Int) (i:Int)=some ⟨[.int (r:Int)],[],false⟩:=by
    intro run n j
    induction j with
    | zero =>
      intro i hi
      refine ⟨i,by omega,fun k hk=>?_⟩
      obtain ⟨k,rfl⟩:∃ j,k=j+1:=⟨k-1,by omega⟩
      have e:IntKind.wrap .u64 (IntKind.wrap .i64 (63-(i:Int)))=0:=by rw [w64 (by omega) (by omega),wrap64]; omega
      rw [f202_l0_eq,ltI_t (by omega),cond_true,e,leI_t (by omega),cond_true,show Int.fdiv (x:Int) (2^(min (Int.toNat 0) 64))=(x:Int) by show Int.fdiv (x:Int) 1=_; exact Int.fdiv_one _,eqI_f (by omega),not_f,cond_true]
      rfl
    | succ j ih =>
      intro i hi
      obtain ⟨r,hr,ih'⟩:=ih (i+1) (by omega)
      by_cases hb:Int.fdiv (x:Int) (2^(min (Int.toNat (IntKind.wrap .u64 (IntKind.wrap .i64 (63-(i:Int))))) 64))=0
      · refine ⟨r,hr,fun k hk=>?_⟩
        obtain ⟨k,rfl⟩:∃ j,k=j+1:=⟨k-1,by omega⟩
        have:=ih' k (by omega)
        rw [show ((i+1:Nat):Int)=(i:Int)+1 by omega] at this
        rw [f202_l0_eq,ltI_t (by omega),cond_true,eqI_t hb,not_t,cond_false,w64 (x:=(i:Int)+1) (by omega) (by omega),this,leI_t (by rw [wrap64]; omega)]
        rfl
      · refine ⟨i,by omega,fun k hk=>?_⟩
        obtain ⟨k,rfl⟩:∃ j,k=j+1:=⟨k-1,by omega⟩
        rw [f202_l0_eq,ltI_t (by omega),cond_true,eqI_f hb,not_f,cond_true,leI_t (by rw [wrap64]; omega)]
        rfl
  obtain ⟨r,hr,_⟩:=key (fun _ _=>none) 0 63 0 (by omega)
  clear hr
  have pick:∀ (run:Run) (n:Nat) ,∃ r:Nat,r≤63∧∀ k,63 < k→f202_l0 run n k (x:Int) 0 0=some ⟨[.int (r:Int)],[],false⟩:=fun run n=>key run n 63 0 (by omega)
  obtain ⟨q,hq,e⟩:=pick (runE G ext 100) 100
  refine ⟨q,hq,RunsX.of_eval 101 ?_⟩
  rw [f202_run,f202_eq]
  exact e 100 (by omega)
theorem len_runs {p:Nat} (h1:0 < p) (h2:p < 18446744073709551616):∃ r:Nat,1≤r∧r≤64∧RunsX 196 [.agg (five p)] ⟨[.int (r:Int)],[],false⟩:=by
  obtain ⟨r,hr,h⟩:=lead_runs h1 h2
  refine ⟨64-r,by omega,by omega,Evt.succ ((h.and (Evt.ge 10)).mono fun m hm=>?_)⟩
  obtain ⟨hm,hn⟩:=hm
  have key:∀ (k i:Nat),i < 4→f196_l0 (runE G ext m) m (k+1) (i:Int) (five p)=f196_l0 (runE G ext m) m k ((i+1:Nat):Int) (five p):=by
    intro k i hi
    have e:AV.fld (.agg (five p)) (4-i)=.int 0:=by
      obtain rfl | rfl | rfl | rfl:i=0∨i=1∨i=2∨i=3:=by omega
      all_goals rfl
    rw [f196_l0_eq,ltI_t (by omega),cond_true,w64 (x:=4-(i:Int)) (by omega) (by omega),show 4-(i:Int)=((4-i:Nat):Int) by omega,inR_nat (by omega),cond_true,Int.toNat_natCast,e,toInt_i,eqI_t rfl,not_t,cond_false,w64 (by omega) (by omega),show (i:Int)+1=((i+1:Nat):Int) by omega]
  obtain ⟨k,rfl⟩:∃ k,m=k+6:=⟨m-6,by omega⟩
  rw [f196_run,f196_eq,show (0:Int)=((0:Nat):Int) from rfl,key (k+5) 0 (by omega),key (k+4) 1 (by omega),key (k+3) 2 (by omega),key (k+2) 3 (by omega),f196_l0_eq,ltI_t (by omega),cond_true,w64 (x:=4-((3+1:Nat):Int)) (by omega) (by omega),show 4-((3+1:Nat):Int)=((0:Nat):Int) by omega,inR_nat (by omega),cond_true,Int.toNat_natCast,show AV.fld (.agg (five p)) 0=.int (p:Int) from rfl,toInt_i,eqI_f (by omega),not_f,cond_true,hm,step1,toInt_i,w64 (x:=64*((3+1:Nat):Int)) (by omega) (by omega),w64 (x:=320-64*((3+1:Nat):Int)) (by omega) (by omega),w64 (by omega) (by omega),show 320-64*((3+1:Nat):Int)-(r:Int)=((64-r:Nat):Int) by omega]
  rfl
def limbs5 (N:Nat):List AV:=[.int (U (lb N 0)),.int (U (lb N 1)),.int (U (lb N 2)),.int (U (lb N 3)),.int (U (lb N 4))]
theorem limbs5_fld (N:Nat) {j:Nat} (h:j < 5):AV.fld (.agg (limbs5 N)) j=.int (U (lb N j)):=by
  match j,h with
  | 0,_=>rfl
  | 1,_=>rfl
  | 2,_=>rfl
  | 3,_=>rfl
  | 4,_=>rfl
theorem lb_small {p j:Nat} (hp:p < 18446744073709551616) (hj:1≤j):lb p j=0:=by
  unfold lb
  rw [Nat.div_eq_of_lt]
  · rfl
  · exact Nat.lt_of_lt_of_le hp (by
      calc 18446744073709551616=18446744073709551616^1:=by rw [Nat.pow_one]
        _≤_:=Nat.pow_le_pow_right (by omega) hj)
theorem lb_zero' {p:Nat} (hp:p < 18446744073709551616):U (lb p 0)=(p:Int):=by
  unfold U
  rw [lb_toNat,Nat.pow_zero,Nat.div_one,Nat.mod_eq_of_lt hp]
theorem five_limbs {p:Nat} (hp:p < 18446744073709551616):five p=limbs5 p:=by
  unfold five limbs5
  rw [lb_zero' hp,lb_small hp (by omega),lb_small hp (by omega),lb_small hp (by omega),lb_small hp (by omega)]
  rfl
theorem lb_shl (a n i:Nat) (hi:n / 64≤i) (hb:1≤n % 64):lb (a*2^n) i=(lb a (i-n / 64) <<< (n % 64)) ||| (if n / 64 < i then lb a (i-n / 64-1) >>> (64-n % 64) else 0):=by
  have hn:a*2^n / 18446744073709551616^i=a*2^(n % 64) / 18446744073709551616^(i-n / 64):=by
    have e:2^n=2^(n % 64)*18446744073709551616^(n / 64):=by
      have:=Nat.div_add_mod n 64
      conv=>lhs; rw [← this,Nat.pow_add,Nat.pow_mul]
      rw [Nat.mul_comm]
    have e2:18446744073709551616^i=18446744073709551616^(i-n / 64)*18446744073709551616^(n / 64):=by rw [← Nat.pow_add]; congr 1; omega
    rw [e,e2,← Nat.mul_assoc,Nat.mul_div_mul_right _ _ (Nat.pow_pos (by omega))]
  by_cases h0:n / 64 < i
  · rw [if_pos h0]
    obtain ⟨j,hj⟩:∃ j,i-n / 64=j+1:=⟨i-n / 64-1,by omega⟩
    have hs:=lb_shr a (64*j+(64-n % 64)) 0 (by omega)
    rw [show (64*j+(64-n % 64)) / 64=j by omega,show (64*j+(64-n % 64)) % 64=64-n % 64 by omega,Nat.zero_add,show 64-(64-n % 64)=n % 64 by omega] at hs
    have e:lb (a*2^n) i=lb (a / 2^(64*j+(64-n % 64))) 0:=by
      unfold lb
      rw [hn,hj,Nat.pow_zero,Nat.div_one]
      congr 1
      have e3:18446744073709551616^(j+1)=2^(64*j+(64-n % 64))*2^(n % 64):=by
        rw [← Nat.pow_add,show (18446744073709551616:Nat)=2^64 by decide,← Nat.pow_mul]
        congr 1; omega
      rw [e3,Nat.mul_div_mul_right _ _ (Nat.two_pow_pos _)]
    rw [e,hs,hj,Nat.add_sub_cancel,BitVec.or_comm]
  · rw [if_neg h0,show i-n / 64=0 by omega]
    apply BitVec.eq_of_toNat_eq
    rw [BitVec.toNat_or,BitVec.toNat_shiftLeft,lb_toNat,lb_toNat,hn,show i-n / 64=0 by omega,Nat.pow_zero,Nat.div_one,Nat.div_one,Nat.shiftLeft_eq]
    show _=_ ||| 0
    rw [Nat.or_zero,show (2:Nat)^64=18446744073709551616 by decide,Nat.mod_mul_mod]
theorem lb_shl0 (a n i:Nat) (hi:n / 64≤i) (hb:n % 64=0):lb (a*2^n) i=lb a (i-n / 64):=by
  unfold lb
  congr 1
  have e:2^n=18446744073709551616^(n / 64):=by
    have:=Nat.div_add_mod n 64
    rw [hb,Nat.add_zero] at this
    conv=>lhs; rw [← this,Nat.pow_mul]
  have e2:18446744073709551616^i=18446744073709551616^(i-n / 64)*18446744073709551616^(n / 64):=by rw [← Nat.pow_add]; congr 1; omega
  rw [e,e2,Nat.mul_div_mul_right _ _ (Nat.pow_pos (by omega))]
theorem lb_low (a n i:Nat) (hi:i < n / 64):lb (a*2^n) i=0:=by
  apply BitVec.eq_of_toNat_eq
  rw [lb_toNat]
  show _=0
  have e:2^n=2^(n-64*(i+1))*18446744073709551616*18446744073709551616^i:=by
    rw [show (18446744073709551616:Nat)=2^64 by decide,← Nat.pow_mul,← Nat.pow_add,← Nat.pow_add]
    congr 1
    omega
  rw [e,← Nat.mul_assoc,Nat.mul_div_cancel _ (Nat.pow_pos (by omega)),← Nat.mul_assoc,Nat.mul_mod_left]
def shlSt (q i:Nat):List AV:=(List.range 5).map fun j=>if j < i then .int (U (lb q j)) else .int 0
theorem shlSt_len (q i:Nat):(shlSt q i).length=5:=by simp [shlSt]
theorem set_range5 (i:Nat) (f:Nat→AV) (v:AV):((List.range 5).map f).set i v=(List.range 5).map (fun j=>if j=i then v else f j):=by
  apply List.ext_getElem
  · simp
  · intro j h1 h2
    simp [List.getElem_set]
    by_cases h:i=j
    · simp [h]
    · rw [if_neg h,if_neg (Ne.symm h)]
theorem shlSt_set (q i:Nat):(shlSt q i).set i (.int (U (lb q i)))=shlSt q (i+1):=by
  unfold shlSt
  rw [set_range5]
  congr 1
  funext j
  by_cases h:j=i
  · subst h; rw [if_pos rfl,if_pos (by omega)]
  · rw [if_neg h]
    by_cases h2:j < i
    · rw [if_pos h2,if_pos (by omega)]
    · rw [if_neg h2,if_neg (by omega)]
theorem shlSt_all (q:Nat):shlSt q 5=limbs5 q:=rfl
theorem shlSt_low {q s:Nat} (h:∀ j,j < s→lb q j=0):shlSt q s=List.replicate 5 (.int 0):=by
  have e:∀ j,(if j < s then AV.int (U (lb q j)) else .int 0)=.int 0:=by
    intro j
    by_cases h1:j < s
    · rw [if_pos h1,h j h1]; rfl
    · rw [if_neg h1]
  show [if 0 < s then AV.int (U (lb q 0)) else .int 0,if 1 < s then AV.int (U (lb q 1)) else .int 0,if 2 < s then AV.int (U (lb q 2)) else .int 0,if 3 < s then AV.int (U (lb q 3)) else .int 0,if 4 < s then AV.int (U (lb q 4)) else .int 0]=_
  rw [e,e,e,e,e]
  rfl
theorem shl_runs {p n:Nat} (hp:p < 18446744073709551616) (hn:n < 256):RunsX 187 [.agg (five p),.int (n:Int)] ⟨[.agg (limbs5 (p*2^n)),.bool true],[],false⟩:=by
  by_cases h0:p=0
  · subst h0
    rw [Nat.zero_mul,← five_limbs (by omega)]
    exact shl_zero
  obtain ⟨r,hr1,hr2,hlen⟩:=len_runs (by omega) hp
  refine Evt.succ ((hlen.and (Evt.ge 10)).mono fun m hm=>?_)
  obtain ⟨hl,hm⟩:=hm
  have e1:IntKind.wrap .i64 (Int.tdiv (n:Int) 64)=((n / 64:Nat):Int):=by
    have:Int.tdiv (n:Int) 64=((n / 64:Nat):Int):=rfl
    rw [this,w64 (by omega) (by omega)]
  have e2:IntKind.wrap .u64 (Int.tmod (n:Int) 64)=((n % 64:Nat):Int):=by
    have:Int.tmod (n:Int) 64=((n % 64:Nat):Int):=rfl
    rw [this,wrap64]; omega
  have step:∀ (i k:Nat) (o4:List AV),n / 64≤i→i < 5→f187_l0 (runE G ext m) m (k+1) ((n / 64:Nat):Int) ((n % 64:Nat):Int) (i:Int) (limbs5 p) o4 (shlSt (p*2^n) i)=f187_l0 (runE G ext m) m k ((n / 64:Nat):Int) ((n % 64:Nat):Int) ((i+1:Nat):Int) (limbs5 p) o4 (shlSt (p*2^n) (i+1)):=by
    intro i k o4 hi hi5
    rw [f187_l0_eq,ltI_t (by omega),cond_true,w64 (x:=(i:Int)-((n / 64:Nat):Int)) (by omega) (by omega),show (i:Int)-((n / 64:Nat):Int)=((i-n / 64:Nat):Int) by omega,inR_nat (by omega),cond_true,leI_t (show (0:Int)≤((n % 64:Nat):Int) by omega),cond_true,inR_nat (i:=i) (by omega),cond_true,Int.toNat_natCast,Int.toNat_natCast,Int.toNat_natCast,limbs5_fld p (by omega),toInt_i,w64 (x:=(i:Int)+1) (by omega) (by omega),show (i:Int)+1=((i+1:Nat):Int) by omega,show min (n % 64) 64=n % 64 by omega,u64_shl]
    by_cases hb:n % 64=0
    · rw [ltI_f (show ¬ (0:Int) < ((n % 64:Nat):Int) by omega),cond_false]
      have:lb p (i-n / 64) <<< (n % 64)=lb (p*2^n) i:=by rw [lb_shl0 p n i hi hb,hb]; exact BitVec.shiftLeft_zero _
      rw [this,shlSt_set]
    · rw [ltI_t (show (0:Int) < ((n % 64:Nat):Int) by omega),cond_true]
      have hs:=lb_shl p n i hi (by omega)
      by_cases ht:n / 64 < i
      · rw [if_pos ht] at hs
        rw [ltI_t (show ((n / 64:Nat):Int) < (i:Int) by omega),cond_true,cond_true,w64 (x:=((i-n / 64:Nat):Int)-1) (by omega) (by omega),show ((i-n / 64:Nat):Int)-1=((i-n / 64-1:Nat):Int) by omega,inR_nat (i:=i-n / 64-1) (by omega),cond_true,wrap64,show (64-((n % 64:Nat):Int)) % 18446744073709551616=((64-n % 64:Nat):Int) by omega,leI_t (show (0:Int)≤((64-n % 64:Nat):Int) by omega),cond_true,cond_true,Int.toNat_natCast,Int.toNat_natCast,limbs5_fld p (show i-n / 64-1 < 5 by omega),toInt_i,show min (64-n % 64) 64=64-n % 64 by omega,U_shr]
        have hf:AV.fld (.agg ((shlSt (p*2^n) i).set i (.int (U (lb p (i-n / 64) <<< (n % 64)))))) i=.int (U (lb p (i-n / 64) <<< (n % 64))):=by
          unfold AV.fld
          rw [toAgg_a,nth_lt (by rw [List.length_set,shlSt_len]; omega),List.getElem_set_self]
        rw [hf,toInt_i,ofInt_U,ofInt_U,U64,ofInt_toNat,← hs,List.set_set,shlSt_set]
      · rw [ltI_f (show ¬ ((n / 64:Nat):Int) < (i:Int) by omega),cond_false]
        rw [if_neg ht] at hs
        have:lb p (i-n / 64) <<< (n % 64)=lb (p*2^n) i:=by rw [hs]; simp
        rw [this,shlSt_set]
  have key:∀ (j k i:Nat) (o4:List AV),i+j=5→n / 64≤i→j < k→f187_l0 (runE G ext m) m k ((n / 64:Nat):Int) ((n % 64:Nat):Int) (i:Int) (limbs5 p) o4 (shlSt (p*2^n) i)=some ⟨[.agg (limbs5 (p*2^n)),.bool true],[],false⟩:=by
    intro j
    induction j with
    | zero =>
      intro k i o4 hi _ hk
      obtain ⟨k,rfl⟩:∃ j,k=j+1:=⟨k-1,by omega⟩
      rw [f187_l0_eq,ltI_f (by omega),cond_false,show i=5 by omega,shlSt_all]; rfl
    | succ j ih =>
      intro k i o4 hi h1 hk
      obtain ⟨k,rfl⟩:∃ j,k=j+1:=⟨k-1,by omega⟩
      rw [step i k o4 h1 (by omega)]
      exact ih k (i+1) o4 (by omega) (by omega) (by omega)
  have hst:=key (5-n / 64) m (n / 64) (List.replicate 5 (.int 0)) (by omega) (Nat.le_refl _) (by omega)
  rw [shlSt_low (fun j hj=>lb_low p n j hj)] at hst
  rw [f187_run,f187_eq,ltI_f (by omega),cond_false,hl,step1,toInt_i,ltI_t (by omega),cond_true,step1,toInt_i,w64 (x:=320-(r:Int)) (by omega) (by omega),ltI_f (by omega),cond_false,step1,toInt_i,eqI_f (by omega),cond_false,e1,e2,five_limbs hp]
  exact hst
def Big5:Nat:=2135987035920910082395021706169552114602704522356652769947041607822219725780640550022962086936576
theorem lb5_all {a:Nat} (h:a < Big5):a=(lb a 0).toNat+18446744073709551616*(lb a 1).toNat+340282366920938463463374607431768211456*(lb a 2).toNat+6277101735386680763835789423207666416102355444464034512896*(lb a 3).toNat+115792089237316195423570985008687907853269984665640564039457584007913129639936*(lb a 4).toNat:=by
  rw [lb_toNat,lb_toNat,lb_toNat,lb_toNat,lb_toNat]
  simp only [Nat.reducePow]
  unfold Big5 at h
  omega
theorem cmp5_runs {a b:Nat} (ha:a < Big5) (hb:b < Big5):RunsX 168 [.agg (limbs5 a),.agg (limbs5 b)] ⟨[.int (cmpN a b)],[],false⟩:=by
  have ea:=lb5_all ha
  have eb:=lb5_all hb
  have k0:=(lb a 0).isLt
  have k1:=(lb a 1).isLt
  have k2:=(lb a 2).isLt
  have k3:=(lb a 3).isLt
  have k4:=(lb a 4).isLt
  have j0:=(lb b 0).isLt
  have j1:=(lb b 1).isLt
  have j2:=(lb b 2).isLt
  have j3:=(lb b 3).isLt
  have j4:=(lb b 4).isLt
  refine Evt.succ ((Evt.ge 10).mono fun m hm=>?_)
  obtain ⟨k,rfl⟩:∃ k,m=k+6:=⟨m-6,by omega⟩
  have step:∀ (k i:Nat),i < 5→f168_l0 (runE G ext (k+6)) (k+6) (k+1) (i:Int) (limbs5 a) (limbs5 b)=f168_l0 (runE G ext (k+6)) (k+6) (k+1) (i:Int) (limbs5 a) (limbs5 b):=fun _ _ _=>rfl
  clear step
  have same:∀ (run:Run) (n k i:Nat),i < 5→(lb a (4-i)).toNat=(lb b (4-i)).toNat→f168_l0 run n (k+1) (i:Int) (limbs5 a) (limbs5 b)=f168_l0 run n k ((i+1:Nat):Int) (limbs5 a) (limbs5 b):=by
    intro run n k i hi h
    rw [f168_l0_eq,ltI_t (by omega),cond_true,w64 (x:=4-(i:Int)) (by omega) (by omega),show 4-(i:Int)=((4-i:Nat):Int) by omega,inR_nat (by omega),cond_true,cond_true,Int.toNat_natCast,limbs5_fld a (by omega),limbs5_fld b (by omega),toInt_i,toInt_i,eqI_t (by unfold U; omega),not_t,cond_false,w64 (by omega) (by omega),show (i:Int)+1=((i+1:Nat):Int) by omega]
  have lss:∀ (run:Run) (n k i:Nat),i < 5→(lb a (4-i)).toNat < (lb b (4-i)).toNat→f168_l0 run n (k+1) (i:Int) (limbs5 a) (limbs5 b)=some ⟨[.int (-1)],[],false⟩:=by
    intro run n k i hi h
    rw [f168_l0_eq,ltI_t (by omega),cond_true,w64 (x:=4-(i:Int)) (by omega) (by omega),show 4-(i:Int)=((4-i:Nat):Int) by omega,inR_nat (by omega),cond_true,cond_true,Int.toNat_natCast,limbs5_fld a (by omega),limbs5_fld b (by omega),toInt_i,toInt_i,eqI_f (by unfold U; omega),not_f,cond_true,ltI_t (by unfold U; omega),cond_true]
    rfl
  have gtr:∀ (run:Run) (n k i:Nat),i < 5→(lb b (4-i)).toNat < (lb a (4-i)).toNat→f168_l0 run n (k+1) (i:Int) (limbs5 a) (limbs5 b)=some ⟨[.int 1],[],false⟩:=by
    intro run n k i hi h
    rw [f168_l0_eq,ltI_t (by omega),cond_true,w64 (x:=4-(i:Int)) (by omega) (by omega),show 4-(i:Int)=((4-i:Nat):Int) by omega,inR_nat (by omega),cond_true,cond_true,Int.toNat_natCast,limbs5_fld a (by omega),limbs5_fld b (by omega),toInt_i,toInt_i,eqI_f (by unfold U; omega),not_f,cond_true,ltI_f (by unfold U; omega),cond_false]
    rfl
  rw [f168_run,f168_eq,show (0:Int)=((0:Nat):Int) from rfl]
  unfold cmpN
  rcases Nat.lt_trichotomy (lb a 4).toNat (lb b 4).toNat with h | h | h
  · rw [lss _ _ (k+5) 0 (by omega) h,if_pos (by omega)]
  case inr.inr=>rw [gtr _ _ (k+5) 0 (by omega) h,if_neg (by omega),if_pos (by omega)]
  rw [same _ _ (k+5) 0 (by omega) h]
  rcases Nat.lt_trichotomy (lb a 3).toNat (lb b 3).toNat with h' | h' | h'
  · rw [lss _ _ (k+4) 1 (by omega) h',if_pos (by omega)]
  case inr.inr=>rw [gtr _ _ (k+4) 1 (by omega) h',if_neg (by omega),if_pos (by omega)]
  rw [same _ _ (k+4) 1 (by omega) h']
  rcases Nat.lt_trichotomy (lb a 2).toNat (lb b 2).toNat with h2 | h2 | h2
  · rw [lss _ _ (k+3) 2 (by omega) h2,if_pos (by omega)]
  case inr.inr=>rw [gtr _ _ (k+3) 2 (by omega) h2,if_neg (by omega),if_pos (by omega)]
  rw [same _ _ (k+3) 2 (by omega) h2]
  rcases Nat.lt_trichotomy (lb a 1).toNat (lb b 1).toNat with h3 | h3 | h3
  · rw [lss _ _ (k+2) 3 (by omega) h3,if_pos (by omega)]
  case inr.inr=>rw [gtr _ _ (k+2) 3 (by omega) h3,if_neg (by omega),if_pos (by omega)]
  rw [same _ _ (k+2) 3 (by omega) h3]
  rcases Nat.lt_trichotomy (lb a 0).toNat (lb b 0).toNat with h4 | h4 | h4
  · rw [lss _ _ (k+1) 4 (by omega) h4,if_pos (by omega)]
  case inr.inr=>rw [gtr _ _ (k+1) 4 (by omega) h4,if_neg (by omega),if_pos (by omega)]
  rw [same _ _ (k+1) 4 (by omega) h4,f168_l0_eq,ltI_f (by omega),cond_false,if_neg (by omega),if_neg (by omega)]
  rfl
def mayR (a b:Int):Bool:=decide (0 < a)&&(decide (a < b)&&decide (b≤65536))
theorem ratioMay_runs {a b:Int}:RunsX 63 [.int a,.int b] ⟨[.bool (mayR a b)],[],false⟩:=by
  refine Evt.succ (.of fun n=>?_)
  unfold mayR
  rw [f63_run,f63_eq]
  by_cases h1:0 < a
  · rw [ltI_t h1,cond_true,decide_eq_true h1]
    by_cases h2:a < b
    · rw [ltI_t h2,cond_true,decide_eq_true h2]; rfl
    · rw [ltI_f h2,cond_false,decide_eq_false h2]; rfl
  · rw [ltI_f h1,cond_false,decide_eq_false h1]; rfl
theorem of_runs {x:Nat}:RunsX 186 [.int (x:Int)] ⟨[.agg (five x)],[],false⟩:=by
  refine Evt.succ (.of fun n=>?_)
  rw [f186_run,f186_eq]
  rfl
theorem product_runs {n b:Nat} {up:Int} (hn:n < 4294967296) (hb:b≤65536) (h0:0≤up) (h1:up≤255):RunsX 176 [.int (n:Int),.int (b:Int),.int up] ⟨[.agg (limbs5 (n*b*2^up.toNat)),.bool true],[],false⟩:=by
  have hpy:n*b < 18446744073709551616:=by
    have:n*b≤4294967295*65536:=Nat.mul_le_mul (by omega) hb
    omega
  obtain ⟨q,hm⟩:=mul_runs hn (show b < 4294967296 by omega)
  refine Evt.succ (((of_runs (x:=n)).and (hm.and (shl_runs (p:=n*b) (n:=up.toNat) hpy (by omega)))).mono fun m h=>?_)
  obtain ⟨g1,g2,g3⟩:=h
  rw [show ((up.toNat:Nat):Int)=up by omega] at g3
  rw [f176_run,f176_eq,wN (show n < 18446744073709551616 by omega),g1,step1,toAgg_a,wN (show b < 18446744073709551616 by omega),g2,step2,ltI_f (by omega),cond_false,ltI_f (by omega),cond_false,toAgg_a,g3]
  rfl
theorem product_bad {n b:Nat} {up:Int} (hn:n < 4294967296) (hb:b≤65536) (h0:up < 0∨255 < up):RunsX 176 [.int (n:Int),.int (b:Int),.int up] ⟨[.agg (five 0),.bool false],[],false⟩:=by
  obtain ⟨q,hm⟩:=mul_runs hn (show b < 4294967296 by omega)
  refine Evt.succ (((of_runs (x:=n)).and hm).mono fun m h=>?_)
  obtain ⟨g1,g2⟩:=h
  rw [f176_run,f176_eq,wN (show n < 18446744073709551616 by omega),g1,step1,toAgg_a,wN (show b < 18446744073709551616 by omega),g2,step2]
  by_cases h:up < 0
  · rw [ltI_t h,cond_true]; rfl
  · rw [ltI_f h,cond_false,ltI_t (by omega),cond_true]; rfl
def cmpR (n of_:Nat) (up a b:Int):Int:=if mayR a b=true∧0≤up∧up≤255 then cmpN (n*b.toNat*2^up.toNat) (of_*(b-a).toNat) else 2
theorem pow_le255 {u:Nat} (h:u≤255):2^u≤2^255:=Nat.pow_le_pow_right (by omega) h
theorem sides_big {n b u:Nat} (hn:n < 4294967296) (hb:b≤65536) (hu:u≤255):n*b*2^u < Big5:=by
  have h1:n*b≤4294967295*65536:=Nat.mul_le_mul (by omega) hb
  have h2:=Nat.mul_le_mul h1 (pow_le255 hu)
  refine Nat.lt_of_le_of_lt h2 ?_
  decide
theorem mayR_iff {a b:Int}:mayR a b=true ↔ 0 < a∧a < b∧b≤65536:=by simp [mayR]
theorem ratioAbove_runs {n of_:Nat} {up a b:Int} (hn:n < 4294967296) (ho:of_ < 4294967296):RunsX 152 [.int (n:Int),.int (of_:Int),.int up,.int a,.int b] ⟨[.bool (eqI (cmpR n of_ up a b) 1)],[],false⟩ ∧
    RunsX 153 [.int (n:Int),.int (of_:Int),.int up,.int a,.int b] ⟨[.bool (eqI (cmpR n of_ up a b) 1 || eqI (cmpR n of_ up a b) 0)],[],false⟩:=by
  have two:eqI 2 1=false:=rfl
  have two0:eqI 2 0=false:=rfl
  cases hM:mayR a b with
  | false =>
    have hs:RunsX 167 [.int (n:Int),.int (of_:Int),.int up,.int a,.int b] ⟨[.agg (five 0),.agg (five 0),.bool false],[],false⟩:=by
      refine Evt.succ ((ratioMay_runs (a:=a) (b:=b)).mono fun m h=>?_)
      rw [f167_run,f167_eq,h,step1,toBool_b,hM,not_f,cond_true]; rfl
    have e:cmpR n of_ up a b=2:=by unfold cmpR; rw [hM,if_neg (by simp)]
    rw [e,two,two0]
    exact ⟨Evt.succ (hs.mono fun m h=>by rw [f152_run,f152_eq,h,step3,toBool_b,cond_false]; rfl),Evt.succ (hs.mono fun m h=>by rw [f153_run,f153_eq,h,step3,toBool_b,cond_false]; rfl)⟩
  | true =>
    obtain ⟨m1,m2,m3⟩:=mayR_iff.1 hM
    obtain ⟨bn,rfl⟩:∃ bn:Nat,b=(bn:Int):=⟨b.toNat,by omega⟩
    obtain ⟨dn,hd⟩:∃ dn:Nat,(bn:Int)-a=(dn:Int):=⟨((bn:Int)-a).toNat,by omega⟩
    have hu:IntKind.wrap .u32 (bn:Int)=(bn:Int):=by rw [wrap32]; omega
    have hu2:IntKind.wrap .u32 (IntKind.wrap .i64 ((bn:Int)-a))=(dn:Int):=by rw [w64 (by omega) (by omega),wrap32]; omega
    have p2:=product_runs (n:=of_) (b:=dn) (up:=0) ho (by omega) (by omega) (by omega)
    rw [show (0:Int).toNat=0 from rfl,Nat.pow_zero,Nat.mul_one] at p2
    have hof:of_*dn < Big5:=by have:=sides_big (u:=0) ho (show dn≤65536 by omega) (by omega); rwa [Nat.pow_zero,Nat.mul_one] at this
    by_cases hup:0≤up∧up≤255
    · have hs:RunsX 167 [.int (n:Int),.int (of_:Int),.int up,.int a,.int (bn:Int)] ⟨[.agg (limbs5 (n*bn*2^up.toNat)),.agg (limbs5 (of_*dn)),.bool true],[],false⟩:=by
        refine Evt.succ (((ratioMay_runs (a:=a) (b:=(bn:Int))).and ((product_runs (n:=n) (b:=bn) (up:=up) hn (by omega) hup.1 hup.2).and p2)).mono fun m h=>?_)
        obtain ⟨g1,g2,g3⟩:=h
        rw [f167_run,f167_eq,g1,step1,toBool_b,hM,not_t,cond_false,hu,g2,step2,hu2,g3]
        rfl
      have hc:=cmp5_runs (sides_big (n:=n) (b:=bn) (u:=up.toNat) hn (by omega) (by omega)) hof
      have e:cmpR n of_ up a (bn:Int)=cmpN (n*bn*2^up.toNat) (of_*dn):=by
        unfold cmpR; rw [hM,if_pos ⟨rfl,hup⟩,Int.toNat_natCast,hd,Int.toNat_natCast]
      have e1:ltI 0 (cmpN (n*bn*2^up.toNat) (of_*dn))=eqI (cmpN (n*bn*2^up.toNat) (of_*dn)) 1:=by
        unfold cmpN
        split
        · rfl
        · split <;> rfl
      have e2:leI 0 (cmpN (n*bn*2^up.toNat) (of_*dn))=(eqI (cmpN (n*bn*2^up.toNat) (of_*dn)) 1 || eqI (cmpN (n*bn*2^up.toNat) (of_*dn)) 0):=by
        unfold cmpN
        split
        · rfl
        · split <;> rfl
      rw [e]
      exact ⟨Evt.succ ((hs.and hc).mono fun m h=>by rw [f152_run,f152_eq,h.1,step3,toBool_b,cond_true,toAgg_a,toAgg_a,h.2,step1,toInt_i,e1]; rfl),Evt.succ ((hs.and hc).mono fun m h=>by rw [f153_run,f153_eq,h.1,step3,toBool_b,cond_true,toAgg_a,toAgg_a,h.2,step1,toInt_i,e2]; rfl)⟩
    · have hs:RunsX 167 [.int (n:Int),.int (of_:Int),.int up,.int a,.int (bn:Int)] ⟨[.agg (five 0),.agg (limbs5 (of_*dn)),.bool false],[],false⟩:=by
        refine Evt.succ (((ratioMay_runs (a:=a) (b:=(bn:Int))).and ((product_bad (n:=n) (b:=bn) (up:=up) hn (by omega) (by omega)).and p2)).mono fun m h=>?_)
        obtain ⟨g1,g2,g3⟩:=h
        rw [f167_run,f167_eq,g1,step1,toBool_b,hM,not_t,cond_false,hu,g2,step2,hu2,g3]
        rfl
      have e:cmpR n of_ up a (bn:Int)=2:=by unfold cmpR; rw [if_neg (by intro h; exact hup h.2)]
      rw [e,two,two0]
      exact ⟨Evt.succ (hs.mono fun m h=>by rw [f152_run,f152_eq,h,step3,toBool_b,cond_false]; rfl),Evt.succ (hs.mono fun m h=>by rw [f153_run,f153_eq,h,step3,toBool_b,cond_false]; rfl)⟩
end Go.Proofs.YteiahdlklppghaaGreat.Ev

namespace Go.Proofs.YteiahdlklppghaaGreat.Ev
open Go Go.RowKit Go.Shelf
attribute [local go_sem] Oper.semAt_some
theorem room_wide (k:Nat):Fence.wide.room k:=fun d h=>by cases h
theorem YieldAt.wide {m:Nat} (m':Nat) {P:Program} {l:Nat} {args:Array Value} {W:World} {R:Ending→World→Prop} (h:YieldAt Fence.wide m P l args W R):YieldAt Fence.wide m' P l args W R:=by
  obtain ⟨fn,tmps,assign,body,hy,hR⟩:=h
  exact ⟨fn,tmps,assign,body,hy,hR.1,fun c cs _=>hR.2 c cs (room_wide _)⟩
theorem own_cell {w:World} {base e k cap g:Nat} {xs:List Value} (h:w.ownsRow base e 1 (.slice (some ⟨g,0,none⟩) k cap) k xs):∀ j u,xs[j]?=some u→w.cell? ((⟨g,0,none⟩:Addr).add j)=some u:=by
  rcases h.2 with ⟨e,_⟩ | ⟨g2,cap2,cur,e,_,hb,h1,h2,h3,h4⟩
  · cases e
  · cases e
    intro j u hj
    rw [← h4,List.getElem?_take] at hj
    split at hj
    · have e:(⟨g,0,none⟩:Addr).add j=⟨g,j,none⟩:=by unfold Addr.add; split <;> simp_all
      rw [e]
      simp [World.cell?,hb]
      simpa using hj
    · cases hj
theorem cell_parts {w:World} {p:Addr} {v:Value} (h:w.cell? p=some v):p.spot=none∧p.block < w.heap.size:=by
  unfold World.cell? at h
  split at h
  · rename_i hb
    split at h
    · cases h
    · rename_i hs
      refine ⟨by simpa using hs,?_⟩
      exact (Array.getElem?_eq_some_iff.1 hb).1
  · cases h
theorem keep_of_below {B:Nat} {w w':World} (h:Below B w w'):Keep B [] w w':=⟨h.os,h.tape,h.output,h.size,fun k hk _=>h.block k hk⟩
theorem row_back {S0:Snap} {w0 w:World} {v:Value} {e:TypeId} {T:Ty} (hT:T.size=1) {xs:List Value} {es:List AV} (ha:∀ p v,S0 p=some v→w0.cell? p=some v) (hb:Below w0.heap.size w0 w)
    (hrow:w.ownsRow w0.heap.size e 1 v es.length xs) (hrep:∀ (i:Nat) y,es[i]?=some y→∃ u,xs[i]?=some u∧∀ S,Rep S T [u] y) :
    ∃ S v',(Ending.returned v)=.returned v'∧S0.le S∧(∀ p u,S p=some u→S0 p=some u∨w0.heap.size≤p.block)∧(∀ p u,S p=some u→w.cell? p=some u) ∧
      Keep w0.heap.size [] w0 w∧ResRel S w w0.heap.size [.val (.slice T)] ⟨[.slice es],[],true⟩ v'∧OutsRel S w [] [] []:=by
  have hold:∀ p u,S0 p=some u→w.cell? p=some u:=fun p u h=>by
    have h1:=ha p u h
    exact (hb.cell (cell_parts h1).2).trans h1
  have hcells:=fun g cap (hv:v=.slice (some ⟨g,0,none⟩) es.length cap)=>own_cell (g:=g) (cap:=cap) (by rw [← hv]; exact hrow)
  rcases hrow.2 with ⟨rfl,h0⟩ | ⟨g,cap,cur,rfl,hg,hh,h1,h2,h3,h4⟩
  · have he:es=[]:=List.length_eq_zero_iff.1 h0
    subst he
    refine ⟨S0,_,rfl,Snap.le_refl _,fun p u h=>.inl h,hold,keep_of_below hb,⟨_,rfl,⟨[.slice none 0 0],(val_one rfl _).symm,none,0,0,[],rfl,rfl,rfl,Nat.le_refl _,Nat.zero_le _,fun _=>rfl,fun p hp=>by cases hp⟩,fun _=>⟨T,rfl,.inl rfl⟩⟩,rfl,rfl⟩
  · have hoff:S0.off g 0:=fun p hp _=>by
      cases hs:S0 p with
      | none=>rfl
      | some u=>have:=(cell_parts (ha p u hs)).2; omega
    have hlen:xs.length=es.length:=by rw [hrow.1]; simp
    refine ⟨S0.plus g 0 xs,_,rfl,Snap.le_plus _ _ _ _,fun p u h=>?_,fun p u h=>?_,keep_of_below hb,⟨_,rfl,⟨[.slice (some ⟨g,0,none⟩) es.length cap],(val_one rfl _).symm,some ⟨g,0,none⟩,es.length,cap,es,rfl,rfl,rfl,h1,h2,(fun h=>by cases h),fun p hp i y hy=>?_⟩,fun _=>⟨T,rfl,.inr ⟨g,es.length,cap,cur.toList,rfl,hg,⟨e,by rw [hh]⟩,by rw [hT]; simpa using h3,h1,h2,?_⟩⟩⟩,rfl,rfl⟩
    · rcases Snap.plus_new h with k | ⟨k,_⟩
      · exact .inl k
      · exact .inr (by rw [k]; exact hg)
    · rcases Snap.plus_new h with k | ⟨k1,k2,_,k4⟩
      · exact hold p u k
      · have:=hcells g cap rfl p.off u (by simpa using k4)
        rw [← this]
        congr 1
        cases p
        simp at k1 k2
        subst k1 k2
        unfold Addr.add
        split <;> simp_all
    · cases hp
      obtain ⟨u,hu,hr⟩:=hrep i y hy
      refine ⟨[u],?_,by rw [hT]; rfl,hr _⟩
      intro j w hj
      have h5:=Snap.plus_has xs hoff i u hu
      match j,hj with
      | 0,hj =>
        cases hj
        rw [hT,Nat.mul_one]
        rw [show ((⟨g,0,none⟩:Addr).add i).add 0=(⟨g,0,none⟩:Addr).add i by simp [Addr.add]]
        exact h5
    · have:=Snap.plus_off xs hoff
      rw [Nat.zero_add,hlen] at this
      rw [hT,Nat.mul_one]
      exact this
end Go.Proofs.YteiahdlklppghaaGreat.Ev

namespace Go.Proofs
open Go.RowKit Go.Shelf
attribute [local go_sem] Oper.semAt_some
def Tryz.hits (zs:List Int) (s:Nat) (level:Int) (k:Nat):List Int :=
  ((List.range k).filter fun j=>decide (s≤j)&&decide (level≤zs[j]?.getD 0)).map fun (j:Nat)=>(j:Int)
theorem Tryz.hits_hit {zs:List Int} {s:Nat} {level:Int} {k:Nat} (h1:s≤k) (h:level≤zs[k]?.getD 0):Tryz.hits zs s level (k+1)=Tryz.hits zs s level k++[(k:Int)]:=by
  simp [Tryz.hits,List.range_succ,List.filter_append,h1,h]
theorem Tryz.hits_miss {zs:List Int} {s:Nat} {level:Int} {k:Nat} (h:¬ level≤zs[k]?.getD 0):Tryz.hits zs s level (k+1)=Tryz.hits zs s level k:=by
  simp [Tryz.hits,List.range_succ,List.filter_append,h]
theorem Tryz.hits_low {zs:List Int} {s:Nat} {level:Int} {k:Nat} (h:k≤s):Tryz.hits zs s level k=[]:=by
  simp [Tryz.hits]
  intro j hj hs
  omega
theorem Tryz.hits_length (zs:List Int) (s:Nat) (level:Int) (k:Nat):(Tryz.hits zs s level k).length≤k:=by
  unfold Tryz.hits
  rw [List.length_map]
  exact Nat.le_trans (List.length_filter_le _ _) (by simp)
structure Tryz.GoodW (B0 B2:Nat) (ad:Option Addr) (b off len cap:Nat) (level:Int) (zs:List Int) (W:World):Prop where
  c0:W.cell? ⟨B0,0,none⟩=some (.slice ad len cap)
  c2:W.cell? ⟨B2,0,none⟩=some (.int .i64 level)
  cs:∀ j,j < len→W.cell? ⟨b,off+j,none⟩=some (.int .i64 (zs[j]?.getD 0))
set_option maxRecDepth 100000 in
set_option maxHeartbeats 2000000 in
theorem Tryz.each1_in (m:Nat) (ad:Option Addr) (l B1 B0 B2 b off len cap s:Nat) (had:ad=some ⟨b,off,none⟩∨len=0) (from_ level:Int) (zs:List Int) (hreach:len≤140737488355328) (hs:max from_ 0=s) (hs2:s≤9223372036854775807) (J Jx:List Int→World→Prop) (W:World)
    (hJ:AbidesFrom W.heap.size J)
    (hY:∀ pre x W,J pre W→pre.length < len→YieldAt Fence.wide (m-1) Tryz.prog l #[.int .i64 x] W fun e W' =>
      (e=.returned (.bool true)∧J (pre++[x]) W'∧(GoodW B0 B2 ad b off len cap level zs W→GoodW B0 B2 ad b off len cap level zs W'))∨(e=.returned (.bool false)∧Jx (pre++[x]) W'))
    (hB1:W.cell? ⟨B1,0,none⟩=some (.int .i64 from_)) (hG:GoodW B0 B2 ad b off len cap level zs W) (h0:J [] W) :
    CallsIn Fence.wide m Tryz.prog 110 #[.func (.yield l) #[] #[],.pointer (some ⟨B1,0,none⟩),.pointer (some ⟨B0,0,none⟩),.pointer (some ⟨B2,0,none⟩)] W fun e W'=>(∃ v,e=.returned v) ∧
      ((∃ ys,ys=Tryz.hits zs s level len∧J ys W')∨(∃ pre,Jx pre W')):=by
  refine callsIn_of_wp Tryz.func110 rfl trivial ?_ rfl
  simp only [Tryz.ntmps110,List.size_toArray,List.length_cons,List.length_nil,Nat.reduceAdd,Nat.reduceSub,Array.replicate_succ,Array.replicate_zero,List.push_toArray,List.append_toArray,List.nil_append,List.cons_append]
  have hB0:=hG.c0
  by_cases hf:from_ < 0
  · have hs0:s=0:=by omega
    gi_wp2
    gi_loopw [5] (fun i wr=>∃ k:Nat,s≤k∧k≤max len s∧i=.int .i64 k∧J (Tryz.hits zs s level (min k len)) wr∧GoodW B0 B2 ad b off len cap level zs wr)
      (fun i _=>len-(intOf i).toNat)
    case atStart =>
      refine ⟨s,by omega,by omega,by rw [hs0]; rfl,?_,hG⟩
      rw [Tryz.hits_low (show min s len≤s by omega)]
      exact h0
    case round =>
      obtain ⟨k,hk1,hk2,rfl,hJ2,hG2⟩:=hrel
      have d0:=hG2.c0
      have d2:=hG2.c2
      by_cases hk:k < len
      · obtain rfl:ad=some ⟨b,off,none⟩:=had.resolve_right (by omega)
        have dk:=hG2.cs k hk
        gi_wp2
        have hmx:Tryz.prog.follows .mixedOrders=true:=by kernel_rfl
        have hhit:=fun h=>Tryz.hits_hit (zs:=zs) (s:=s) (level:=level) (k:=k) hk1 h
        have hmiss:=fun h=>Tryz.hits_miss (zs:=zs) (s:=s) (level:=level) (k:=k) h
        generalize zs[k]?.getD 0=z at dk hhit hmiss
        by_cases hlv:level≤z
        · have hlen:(Tryz.hits zs s level (min k len)).length < len:=by
            have:=Tryz.hits_length zs s level (min k len)
            omega
          have hJd:J (Tryz.hits zs s level (min k len)) wr.drew:=hJ _ _ _ none hJ2 ⟨rfl,rfl,rfl,Nat.le_refl _,fun _ _ _=>rfl⟩ (by simp)
          have hGd:GoodW B0 B2 (some ⟨b,off,none⟩) b off len cap level zs wr.drew:=⟨hG2.c0,hG2.c2,hG2.cs⟩
          obtain ⟨fn,tmps,assign,body,hy,hR⟩:=hY _ (k:Int) wr.drew hJd hlen
          gi_region_with_o (go_simp; refine ⟨fun h=>(by cases h),hR.mono ?_⟩; rintro e W3 hor0; obtain ⟨rb,rfl,hor⟩:∃ rb,e=.returned (.bool rb)∧((rb=true∧J (Tryz.hits zs s level (min k len)++[(k:Int)]) W3∧(GoodW B0 B2 (some ⟨b,off,none⟩) b off len cap level zs wr.drew→GoodW B0 B2 (some ⟨b,off,none⟩) b off len cap level zs W3))∨(rb=false∧Jx (Tryz.hits zs s level (min k len)++[(k:Int)]) W3)):=(by rcases hor0 with ⟨h,a⟩ | ⟨h,a⟩; exact ⟨true,h,.inl ⟨rfl,a⟩⟩; exact ⟨false,h,.inr ⟨rfl,a⟩⟩); clear hor0)
          all_goals (rcases hor with ⟨rfl,hJ3,hG3⟩ | ⟨rfl,hJx3⟩)
          all_goals gi_wp2
          all_goals first
            | exact ⟨⟨k+1,by omega,by omega,by simp,by
                rw [show min (k+1) len=k+1 by omega,hhit hlv]
                rw [show min k len=k by omega] at hJ3
                exact hJ3,hG3 hGd⟩,by simp only [intOf]; omega⟩
            | (refine bodyPost_ret (results_none rfl _ _ _) rfl ?_; exact ⟨⟨_,rfl⟩,.inr ⟨_,hJx3⟩⟩)
        · have hlt:z < level:=by omega
          have hdec:decide (level≤z)=false:=decide_eq_false hlv
          first | gi_region_with_o (go_simp; refine ⟨fun _ h=>(by cases h),?_⟩) | fail
          all_goals gi_wp2
          all_goals exact ⟨⟨k+1,by omega,by omega,by simp,by
                rw [show min (k+1) len=k+1 by omega,hmiss hlv]
                rw [show min k len=k by omega] at hJ2
                exact hJ _ _ _ none hJ2 ⟨rfl,rfl,rfl,Nat.le_refl _,fun _ _ _=>rfl⟩ (by simp),⟨hG2.c0,hG2.c2,hG2.cs⟩⟩,by simp only [intOf]; omega⟩
      · gi_wp2
        go_end0
        refine ⟨⟨_,rfl⟩,.inl ⟨_,rfl,?_⟩⟩
        by_cases hl:len≤s
        · rw [Tryz.hits_low hl]
          rw [Tryz.hits_low (show min k len≤s by omega)] at hJ2
          exact hJ2
        · rw [show min k len=len by omega] at hJ2
          exact hJ2
  · obtain rfl:from_=(s:Int):=by omega
    gi_wp2
    gi_loopw [5] (fun i wr=>∃ k:Nat,s≤k∧k≤max len s∧i=.int .i64 k∧J (Tryz.hits zs s level (min k len)) wr∧GoodW B0 B2 ad b off len cap level zs wr)
      (fun i _=>len-(intOf i).toNat)
    case atStart =>
      refine ⟨s,by omega,by omega,rfl,?_,hG⟩
      rw [Tryz.hits_low (show min s len≤s by omega)]
      exact h0
    case round =>
      obtain ⟨k,hk1,hk2,rfl,hJ2,hG2⟩:=hrel
      have d0:=hG2.c0
      have d2:=hG2.c2
      by_cases hk:k < len
      · obtain rfl:ad=some ⟨b,off,none⟩:=had.resolve_right (by omega)
        have dk:=hG2.cs k hk
        gi_wp2
        have hmx:Tryz.prog.follows .mixedOrders=true:=by kernel_rfl
        have hhit:=fun h=>Tryz.hits_hit (zs:=zs) (s:=s) (level:=level) (k:=k) hk1 h
        have hmiss:=fun h=>Tryz.hits_miss (zs:=zs) (s:=s) (level:=level) (k:=k) h
        generalize zs[k]?.getD 0=z at dk hhit hmiss
        by_cases hlv:level≤z
        · have hlen:(Tryz.hits zs s level (min k len)).length < len:=by
            have:=Tryz.hits_length zs s level (min k len)
            omega
          have hJd:J (Tryz.hits zs s level (min k len)) wr.drew:=hJ _ _ _ none hJ2 ⟨rfl,rfl,rfl,Nat.le_refl _,fun _ _ _=>rfl⟩ (by simp)
          have hGd:GoodW B0 B2 (some ⟨b,off,none⟩) b off len cap level zs wr.drew:=⟨hG2.c0,hG2.c2,hG2.cs⟩
          obtain ⟨fn,tmps,assign,body,hy,hR⟩:=hY _ (k:Int) wr.drew hJd hlen
          gi_region_with_o (go_simp; refine ⟨fun h=>(by cases h),hR.mono ?_⟩; rintro e W3 hor0; obtain ⟨rb,rfl,hor⟩:∃ rb,e=.returned (.bool rb)∧((rb=true∧J (Tryz.hits zs s level (min k len)++[(k:Int)]) W3∧(GoodW B0 B2 (some ⟨b,off,none⟩) b off len cap level zs wr.drew→GoodW B0 B2 (some ⟨b,off,none⟩) b off len cap level zs W3))∨(rb=false∧Jx (Tryz.hits zs s level (min k len)++[(k:Int)]) W3)):=(by rcases hor0 with ⟨h,a⟩ | ⟨h,a⟩; exact ⟨true,h,.inl ⟨rfl,a⟩⟩; exact ⟨false,h,.inr ⟨rfl,a⟩⟩); clear hor0)
          all_goals (rcases hor with ⟨rfl,hJ3,hG3⟩ | ⟨rfl,hJx3⟩)
          all_goals gi_wp2
          all_goals first
            | exact ⟨⟨k+1,by omega,by omega,by simp,by
                rw [show min (k+1) len=k+1 by omega,hhit hlv]
                rw [show min k len=k by omega] at hJ3
                exact hJ3,hG3 hGd⟩,by simp only [intOf]; omega⟩
            | (refine bodyPost_ret (results_none rfl _ _ _) rfl ?_; exact ⟨⟨_,rfl⟩,.inr ⟨_,hJx3⟩⟩)
        · have hlt:z < level:=by omega
          have hdec:decide (level≤z)=false:=decide_eq_false hlv
          first | gi_region_with_o (go_simp; refine ⟨fun _ h=>(by cases h),?_⟩) | fail
          all_goals gi_wp2
          all_goals exact ⟨⟨k+1,by omega,by omega,by simp,by
                rw [show min (k+1) len=k+1 by omega,hmiss hlv]
                rw [show min k len=k by omega] at hJ2
                exact hJ _ _ _ none hJ2 ⟨rfl,rfl,rfl,Nat.le_refl _,fun _ _ _=>rfl⟩ (by simp),⟨hG2.c0,hG2.c2,hG2.cs⟩⟩,by simp only [intOf]; omega⟩
      · gi_wp2
        go_end0
        refine ⟨⟨_,rfl⟩,.inl ⟨_,rfl,?_⟩⟩
        by_cases hl:len≤s
        · rw [Tryz.hits_low hl]
          rw [Tryz.hits_low (show min k len≤s by omega)] at hJ2
          exact hJ2
        · rw [show min k len=len by omega] at hJ2
          exact hJ2
theorem Tryz.each1_stops (m:Nat) (ad:Option Addr) (B1 B0 B2 b off len cap s:Nat) (had:ad=some ⟨b,off,none⟩∨len=0) (from_ level:Int) (zs:List Int) (hreach:len≤140737488355328) (hs:max from_ 0=s) (hs2:s≤9223372036854775807) (w:World)
    (hb:B1 < w.heap.size∧B0 < w.heap.size∧B2 < w.heap.size∧(0 < len→b < w.heap.size))
    (hB1:w.cell? ⟨B1,0,none⟩=some (.int .i64 from_)) (hG:GoodW B0 B2 ad b off len cap level zs w) :
    SeqStopsK Fence.wide m Tryz.prog 110 #[.pointer (some ⟨B1,0,none⟩),.pointer (some ⟨B0,0,none⟩),.pointer (some ⟨B2,0,none⟩)] (fun x:Int=>#[Value.int .i64 x]) (fun W W'=>GoodW B0 B2 ad b off len cap level zs W→GoodW B0 B2 ad b off len cap level zs W') (fun ys=>ys=Tryz.hits zs s level len) (fun _=>True) len w:=by
  intro l J Jx W hW hJ hJx hY h0
  have c1:=(hW.cell (p:=⟨B1,0,none⟩) hb.1).trans hB1
  have g:GoodW B0 B2 ad b off len cap level zs W:=⟨(hW.cell (p:=⟨B0,0,none⟩) hb.2.1).trans hG.c0,(hW.cell (p:=⟨B2,0,none⟩) hb.2.2.1).trans hG.c2,fun j hj=>(hW.cell (p:=⟨b,off+j,none⟩) (hb.2.2.2 (by omega))).trans (hG.cs j hj)⟩
  refine (Tryz.each1_in m ad l B1 B0 B2 b off len cap s had from_ level zs hreach hs hs2 J Jx W hJ hY c1 g h0).mono ?_
  rintro e W' ⟨hv,⟨ys,hys,hj⟩ | ⟨pre,hp⟩⟩
  · exact ⟨hv,.inl ⟨ys,hys,hj⟩⟩
  · exact ⟨hv,.inr ⟨pre,trivial,hp⟩⟩
set_option maxRecDepth 100000 in
set_option maxHeartbeats 2000000 in
theorem Tryz.each_in (m:Nat) (ad:Option Addr) (ln cp:Nat) (from_ level:Int) (w:World) :
    CallsIn Fence.wide m Tryz.prog 81 #[.slice ad ln cp,.int .i64 from_,.int .i64 level] w fun e W'=>e=.returned (.func (.func 110) #[] #[.pointer (some ⟨w.heap.size+1,0,none⟩),.pointer (some ⟨w.heap.size,0,none⟩),.pointer (some ⟨w.heap.size+1+1,0,none⟩)]) ∧
      W'=((w.alloc (.cells #[.slice ad ln cp] 38)).alloc (.cells #[.int .i64 from_] 3)).alloc (.cells #[.int .i64 level] 3):=by
  refine callsIn_of_wp Tryz.func81 rfl trivial ?_ rfl
  simp only [Tryz.ntmps81,List.size_toArray,List.length_cons,List.length_nil,Nat.reduceAdd,Nat.reduceSub,Array.replicate_succ,Array.replicate_zero,List.push_toArray,List.append_toArray,List.nil_append,List.cons_append]
  gi_wp2
  refine bodyPost_ret (results_tmp rfl _ _ _) rfl ?_
  exact ⟨rfl,rfl⟩
end Go.Proofs

namespace Go.Proofs
open Go.RowKit Go.Shelf
attribute [local go_sem] Oper.semAt_some
theorem Tryz.own_base {w:World} {B B' e sz k:Nat} {v:Value} {xs:List Value} (h:w.ownsRow B e sz v k xs) (hb:B'≤B):w.ownsRow B' e sz v k xs:=by
  refine ⟨h.1,?_⟩
  rcases h.2 with h2 | ⟨g,cap,cur,e1,e2,e3⟩
  · exact .inl h2
  · exact .inr ⟨g,cap,cur,e1,Nat.le_trans hb e2,e3⟩
theorem Tryz.info_int:(Tryz.prog.info? 3).map (fun i=>(i.zero,i.size,i.bytes))=some (some (.int .i64 0),1,8):=by kernel_rfl
theorem Tryz.own_cell {w:World} {base e k cap g:Nat} {xs:List Value} (h:w.ownsRow base e 1 (.slice (some ⟨g,0,none⟩) k cap) k xs):∀ j u,xs[j]?=some u→w.cell? ((⟨g,0,none⟩:Addr).add j)=some u:=by
  rcases h.2 with ⟨e,_⟩ | ⟨g2,cap2,cur,e,_,hb,h1,h2,h3,h4⟩
  · cases e
  · cases e
    intro j u hj
    rw [← h4,List.getElem?_take] at hj
    split at hj
    · have e:(⟨g,0,none⟩:Addr).add j=⟨g,j,none⟩:=by unfold Addr.add; split <;> simp_all
      rw [e]
      simp [World.cell?,hb]
      simpa using hj
    · cases hj
theorem Tryz.places_back {w3 W w1:World} {o:Obj} {ad:Option Addr} {n0 ln b off cp g2 cap2 k:Nat} {level:Int} {zs:List Int} {pre:List Int} {x:Int} {row:Option Nat} {v:Value}
    (h1:n0+1 < w3.heap.size) (h3:n0+3 < w3.heap.size) (hsz:w3.heap.size=n0+4) (hb:0 < ln→b < n0) (hB:Below n0 w3 W) (hv2:Boxed w1 n0 38 v) (hgrow:(W.alloc o).grownBy w1 row)
    (hrow:∀ j,row=some j→w3.heap.size≤j∧∃ o',(W.alloc o).heap[j]?=some o'∧o'.isCells=true) (hk:k+1=(pre++[x]).length)
    (hown:w1.ownsRow w3.heap.size 3 1 (.slice (some ⟨g2,0,none⟩) (k+1) cap2) (k+1) ((pre++[x]).map (Value.int .i64))) :
    KeepsFrom w3.heap.size W (w1.setCell ⟨n0,0,none⟩ (.slice (some ⟨g2,0,none⟩) (k+1) cap2)) ∧
    (GoodW (n0+1) (n0+1+1+1) ad b off ln cp level zs W→GoodW (n0+1) (n0+1+1+1) ad b off ln cp level zs (w1.setCell ⟨n0,0,none⟩ (.slice (some ⟨g2,0,none⟩) (k+1) cap2))) ∧
    (∃ v,Boxed (w1.setCell ⟨n0,0,none⟩ (.slice (some ⟨g2,0,none⟩) (k+1) cap2)) n0 38 v∧(w1.setCell ⟨n0,0,none⟩ (.slice (some ⟨g2,0,none⟩) (k+1) cap2)).ownsRow w3.heap.size 3 1 v (pre++[x]).length ((pre++[x]).map (Value.int .i64))∧(v=.slice none 0 0 ↔ pre++[x]=[]))∧Below n0 w3 (w1.setCell ⟨n0,0,none⟩ (.slice (some ⟨g2,0,none⟩) (k+1) cap2)):=by
  have hsz1:=hB.size
  have hbl:Below n0 W (w1.setCell ⟨n0,0,none⟩ (.slice (some ⟨g2,0,none⟩) (k+1) cap2)):=(((Below.refl n0 W).alloc (by omega) _).grown hgrow (by simp; omega) (fun j ej=>by have:=(hrow j ej).1; omega)).setCell (p:=⟨n0,0,none⟩) (Nat.le_refl _) _
  have hko:KeepsOthers W (w1.setCell ⟨n0,0,none⟩ (.slice (some ⟨g2,0,none⟩) (k+1) cap2)):=((KeepsOthers.alloc W _).trans (KeepsOthers.of_grownBy hgrow fun j o' ej hj=>by
    obtain ⟨o2,h5,h6⟩:=(hrow j ej).2
    rw [h5] at hj
    cases hj; exact h6)).trans (KeepsOthers.setCell _ _ _)
  have hkeep:∀ (B:Nat) (f:Nat),B≠n0→B < w3.heap.size→(w1.setCell ⟨n0,0,none⟩ (.slice (some ⟨g2,0,none⟩) (k+1) cap2)).cell? ⟨B,f,none⟩=W.cell? ⟨B,f,none⟩:=by
    intro B f hne hlt
    have e:(w1.setCell ⟨n0,0,none⟩ (.slice (some ⟨g2,0,none⟩) (k+1) cap2)).heap[B]?=W.heap[B]?:=by
      rw [(grownBy_setCell' w1 n0 _).block B (by
        have:=(World.grownBy_alloc W o none).size
        have:=hgrow.size
        omega) (by simpa using hne)]
      rw [hgrow.block B (by have:=(World.grownBy_alloc W o none).size; omega) (fun e=>by have:=(hrow _ e.symm).1; omega)]
      exact (World.grownBy_alloc W o none).block B (by omega) (by simp)
    unfold World.cell?
    rw [e]
  refine ⟨hko.from _,?_,⟨_,hv2.set _,?_,?_⟩,hB.trans hbl⟩
  · intro g
    exact ⟨(hkeep _ _ (by omega) (by omega)).trans g.c0,(hkeep _ _ (by omega) (by omega)).trans g.c2,fun j hj=>(hkeep _ _ (by have:=hb (by omega); omega) (by have:=hb (by omega); omega)).trans (g.cs j hj)⟩
  · rw [← hk]
    refine hown.kept (grownBy_setCell' w1 n0 _) (.inr ?_)
    rcases hown.2 with ⟨e,_⟩ | ⟨g,cap,cur,e,hg,_⟩
    · cases e
    · cases e
      simp [Value.ownBlock]
      omega
  · simp
set_option maxRecDepth 100000 in
set_option maxHeartbeats 2000000 in
theorem Tryz.places_in (m:Nat) (hm:1≤m) (ad:Option Addr) (b off ln cp s:Nat) (had:ad=some ⟨b,off,none⟩∨ln=0) (from_ level:Int) (zs:List Int) (hreach:ln≤1000000000) (hs:max from_ 0=s) (hs2:s≤9223372036854775807) (w:World) (hb:0 < ln→b < w.heap.size)
    (hc:∀ j,j < ln→w.cell? ⟨b,off+j,none⟩=some (.int .i64 (zs[j]?.getD 0))) :
    CallsIn Fence.wide m Tryz.prog 51 #[.slice ad ln cp,.int .i64 from_,.int .i64 level] w fun e W'=>∃ v,e=.returned v∧W'.ownsRow w.heap.size 3 1 v (Tryz.hits zs s level ln).length ((Tryz.hits zs s level ln).map (Value.int .i64))∧Below w.heap.size w W':=by
  obtain ⟨i0,hi,hz0,hz1,hz2⟩:=info_parts Tryz.info_int
  refine callsIn_of_wp_marks Tryz.func51 rfl trivial ?_ rfl
  simp only [Tryz.ntmps51,List.size_toArray,List.length_cons,List.length_nil,Nat.reduceAdd,Nat.reduceSub,Array.replicate_succ,Array.replicate_zero,List.push_toArray,List.append_toArray,List.nil_append,List.cons_append]
  gi_wp2_with (refine ⟨trivial,(Tryz.each_in (m-1) _ _ _ _ _ _).mono ?_⟩; rintro e w1 ⟨rfl,rfl⟩)
  generalize hw3:((((w.alloc (.cells #[.slice none 0 0] 38)).alloc (.cells #[.slice ad ln cp] 38)).alloc (.cells #[.int .i64 from_] 3)).alloc (.cells #[.int .i64 level] 3))=w3
  have bO:Boxed w3 w.heap.size 38 (.slice none 0 0):=by rw [← hw3]; exact ((((Boxed.new w 38 (.slice none 0 0)).alloc _).alloc _).alloc _)
  have b0:Boxed w3 (w.heap.size+1) 38 (.slice ad ln cp):=by
    rw [← hw3]
    have:=Boxed.new (w.alloc (.cells #[.slice none 0 0] 38)) 38 (.slice ad ln cp)
    simp only [World.size_alloc] at this
    exact (this.alloc _).alloc _
  have b1:Boxed w3 (w.heap.size+1+1) 3 (.int .i64 from_):=by
    rw [← hw3]
    have:=Boxed.new ((w.alloc (.cells #[.slice none 0 0] 38)).alloc (.cells #[.slice ad ln cp] 38)) 3 (.int .i64 from_)
    simp only [World.size_alloc] at this
    exact this.alloc _
  have b2:Boxed w3 (w.heap.size+1+1+1) 3 (.int .i64 level):=by
    rw [← hw3]
    have:=Boxed.new (((w.alloc (.cells #[.slice none 0 0] 38)).alloc (.cells #[.slice ad ln cp] 38)).alloc (.cells #[.int .i64 from_] 3)) 3 (.int .i64 level)
    simp only [World.size_alloc] at this
    exact this
  have hsz:w3.heap.size=w.heap.size+4:=by rw [← hw3]; simp
  have hB0:Below w.heap.size w w3:=by
    rw [← hw3]
    exact (((((Below.refl _ w).alloc (Nat.le_refl _) _).alloc (by simp) _).alloc (by simp; omega) _).alloc (by simp; omega) _)
  have hG:GoodW (w.heap.size+1) (w.heap.size+1+1+1) ad b off ln cp level zs w3:=⟨b0.cell,b2.cell,fun j hj=>(hB0.cell (p:=⟨b,off+j,none⟩) (hb (by omega))).trans (hc j hj)⟩
  clear hw3
  refine wpIn_rangeFunc_ownG (n:=m) rfl hm (gf:=110) (lb:=#[.pointer (some ⟨w.heap.size+1+1,0,none⟩),.pointer (some ⟨w.heap.size+1,0,none⟩),.pointer (some ⟨w.heap.size+1+1+1,0,none⟩)]) rfl trivial (enters_of Tryz.func110 (by kernel_rfl) rfl)
    (Tryz.each1_stops (m-1) ad (w.heap.size+1+1) (w.heap.size+1) (w.heap.size+1+1+1) b off ln cp s had from_ level zs (by omega) hs hs2 w3 ⟨by omega,by omega,by omega,fun h=>by have:=hb h; omega⟩ b1.cell hG)
    (fun h1 h2 g=>h2 (h1 g)) ?hKb (Below.refl _ _) (fun _=>rfl)
    (fun pre W=>(∃ v,Boxed W w.heap.size 38 v∧W.ownsRow w3.heap.size 3 1 v pre.length (pre.map (Value.int .i64))∧(v=.slice none 0 0 ↔ pre=[]))∧Below w.heap.size w3 W)
    (fun _ _ _=>False)
    (OwnFrom.and (Own.from (holdsRow_own w3.heap.size w.heap.size 38 3 1 (fun pre:List Int=>pre.length) (fun pre=>pre.map (Value.int .i64)) (fun pre v=>v=.slice none 0 0 ↔ pre=[])) _) (ownFrom_below (by omega) (by omega)))
    (fun _ _ _ _ _ hs _ _=>hs)
    ⟨⟨_,bO,World.ownsRow_nil _ _ _ _,by simp⟩,Below.refl _ _⟩
    (fun x=>{ tmps:=#[.slice ad ln cp,.int .i64 from_,.int .i64 level,undef,undef,undef,.slice none 0 0,.pointer (some ⟨w.heap.size,0,none⟩),.int .i64 x,.slice ad ln cp,.int .i64 from_,.int .i64 level,.func (.func 110) #[] #[.pointer (some ⟨w.heap.size+1+1,0,none⟩),.pointer (some ⟨w.heap.size+1,0,none⟩),.pointer (some ⟨w.heap.size+1+1+1,0,none⟩)],.int .i64 x,undef,undef,undef,undef,undef],defers:=[] }) ?assign ?body ?done ?stop
  case hKb =>
    intro W l o o' hl ho hc1 hw1 g
    have hbl:=belowK_b (w:=w3) (Nat.le_refl _) W l o o' hl ho hc1 hw1
    exact ⟨(hbl.cell (p:=⟨w.heap.size+1,0,none⟩) (by show w.heap.size+1 < w3.heap.size; omega)).trans g.c0,(hbl.cell (p:=⟨w.heap.size+1+1+1,0,none⟩) (by show w.heap.size+1+1+1 < w3.heap.size; omega)).trans g.c2,fun j hj=>(hbl.cell (p:=⟨b,off+j,none⟩) (by have:=hb (by omega); show b < w3.heap.size; omega)).trans (g.cs j hj)⟩
  case assign =>
    intro l x W K hK
    gi_wp2
    exact hK
  case body =>
    rintro l pre x W ⟨⟨v,hv,hrow,hnil⟩,hB⟩ hlt
    have hc:=hv.cell
    have hc1:=(hv.alloc (.cells #[.int .i64 x] 3)).cell
    have hsz1:=hB.size
    have hnew:∀ j u,[Value.int .i64 x][j]?=some u→(W.alloc (.cells #[.int .i64 x] 3)).cell? ((⟨W.heap.size,0,none⟩:Addr).add j)=some u:=by
      have hown1:(W.alloc (.cells #[.int .i64 x] 3)).ownsRow w3.heap.size 3 1 (.slice (some ⟨W.heap.size,0,none⟩) 1 1) 1 [.int .i64 x]:=⟨rfl,.inr ⟨W.heap.size,1,#[.int .i64 x],rfl,hsz1,World.alloc_heap_new _ _,Nat.le_refl _,by rw [show maxLen=9223372036854775807 from rfl]; omega,rfl,rfl⟩⟩
      exact Tryz.own_cell hown1
    have hrow1:=hrow.alloc (.cells #[.int .i64 x] 3)
    have hv1:=hv.alloc (.cells #[.int .i64 x] 3)
    cases pre with
    | nil =>
      obtain rfl:=hnil.2 rfl
      gi_wp2_with (gi_at_builtin; refine wpListIn_append_own _ rfl _ _ 38 rfl w3.heap.size 3 i0 (.int .i64 0) 1 8 Tryz.underlying38 hi hz0 hz1 hz2 rfl (by decide) _ 0 [] rfl hrow1 ⟨W.heap.size,0,none⟩ 1 1 [.int .i64 x] rfl (by simp) hnew (by intro u hu; rw [List.mem_singleton.1 hu]; rfl) (by rw [show maxLen=9223372036854775807 from rfl]; omega) (by omega) (by simp; omega) ?_; intro v' w1 hown' hgrow hnn; obtain ⟨g2,cap2,rfl⟩:=ownsRow_succ hown'; have hgrow:(W.alloc (.cells #[.int .i64 x] 3)).grownBy w1 none:=hgrow; have hv2:=hv1.kept hgrow (by simp); have hcb:=hv2.cell; have hfb:=hv2.frozen; clear hnn)
      try rw [← hsz]
      exact Tryz.places_back (pre:=[]) (k:=0) (by omega) (by omega) hsz hb hB hv2 hgrow (by simp) rfl hown'
    | cons y pre =>
      obtain ⟨g',cap',rfl⟩:=ownsRow_succ hrow
      have hg':w3.heap.size≤g'∧∃ o,(W.alloc (.cells #[.int .i64 x] 3)).heap[g']?=some o∧o.isCells=true:=by
        rcases hrow1.2 with ⟨e,_⟩ | ⟨g,cap,cur,e,hg,hh,_⟩
        · cases e
        · cases e; exact ⟨hg,_,hh,rfl⟩
      have hlt':pre.length+1 < ln:=by simpa using hlt
      gi_wp2_with (gi_at_builtin; refine wpListIn_append_own _ rfl _ _ 38 rfl w3.heap.size 3 i0 (.int .i64 0) 1 8 Tryz.underlying38 hi hz0 hz1 hz2 rfl (by decide) _ ((y::pre).length) ((y::pre).map (Value.int .i64)) rfl hrow1 ⟨W.heap.size,0,none⟩ 1 1 [.int .i64 x] rfl (by simp) hnew (by intro u hu; rw [List.mem_singleton.1 hu]; rfl) (by rw [show maxLen=9223372036854775807 from rfl]; simp; omega) (by simp; omega) (by simp; omega) ?_; intro v' w1 hown' hgrow hnn; obtain ⟨g2,cap2,rfl⟩:=ownsRow_succ hown'; have hgrow:(W.alloc (.cells #[.int .i64 x] 3)).grownBy w1 (some g'):=hgrow; have hv2:=hv1.kept hgrow (by simp; omega); have hcb:=hv2.cell; have hfb:=hv2.frozen; clear hnn)
      try rw [← hsz]
      exact Tryz.places_back (pre:=y::pre) (k:=(y::pre).length) (by omega) (by omega) hsz hb hB hv2 hgrow (by intro j e; cases e; exact hg') (by simp) (by simpa using hown')
  case done =>
    rintro D ys W hD rfl ⟨⟨v,hv,hrow,_⟩,hB⟩ hK
    have hc:=hv.cell
    gi_wp2
    refine ⟨by simp,.inl ⟨_,_,rfl,run_takeDeferred hK,?_⟩⟩
    exact ⟨_,results_tmp rfl _ _ _,v,rfl,ownsRow_putObj (Tryz.own_base (B':=w.heap.size) hrow (by omega)) _ hK rfl,(hB0.trans hB).trans (belowK_b (w:=w) (Nat.le_refl _) W D _ _ (by omega) hK rfl rfl)⟩
  case stop =>
    rintro D c pre W _ _ h _
    exact h.elim
end Go.Proofs

namespace Go.Proofs.YteiahdlklppghaaGreat.Ev
open Go Go.RowKit Go.Shelf
theorem hits_v (zs:List Int) (s:Nat) (level:Int):Tryz.hits zs s level zs.length=(hitsV zs s level).map fun (j:Nat)=>(j:Int):=rfl
theorem places_sat {xs:List AV} {r:Res} (h:placesX xs=some r):Sat Tryz.prog f51_info 51 xs r:=by
  intro S0 w0 vs bs ha hargs _
  obtain ⟨v1,vs1,x1,xs1,rfl,rfl,hv1,v2,vs2,x2,xs2,rfl,rfl,hv2,v3,vs3,x3,xs3,rfl,rfl,hv3,rfl,rfl,rfl⟩:=hargs
  obtain ⟨cs1,rfl,a,len,cap,es,rfl,rfl,hlen,hlc,hcap,hc0,hes⟩:=hv1
  obtain ⟨cs2,rfl,n,rfl,rfl,hwf⟩:=hv2
  obtain ⟨cs3,rfl,i,rfl,rfl,_⟩:=hv3
  unfold placesX at h
  simp only [toInt_i,toSlice_s] at h
  cases hb:Nat.ble es.length 1000000 with
  | false=>rw [hb] at h; cases h
  | true =>
  rw [hb,cond_true] at h
  cases h
  have h3:=Nat.le_of_ble_eq_true hb
  rw [val_one rfl,val_one rfl,val_one rfl]
  have hn:=wf64 hwf
  have hlen2:(es.map AV.toInt).length=len:=by rw [List.length_map]; exact hlen
  have hcell:∀ p,a=some p→∀ j,j < len→w0.cell? (p.add j)=some (.int .i64 ((es.map AV.toInt)[j]?.getD 0)):=by
    intro p hp j hj
    have hj2:j < es.length:=by omega
    obtain ⟨ds,h1,h2,h4⟩:=hes p hp j es[j] (by rw [List.getElem?_eq_getElem hj2])
    obtain ⟨z,rfl,hz,_⟩:=h4
    have h5:=h1 0 _ rfl
    rw [show (p.add (j*Ty.size (.int .i64))).add 0=p.add j by simp [Addr.add,Ty.size]] at h5
    rw [ha _ _ h5,List.getElem?_map,List.getElem?_eq_getElem hj2,hz]
    rfl
  have key:∃ b off,(a=some ⟨b,off,none⟩∨len=0)∧(0 < len→b < w0.heap.size)∧∀ j,j < len→w0.cell? ⟨b,off+j,none⟩=some (.int .i64 ((es.map AV.toInt)[j]?.getD 0)):=by
    by_cases h0:len=0
    · exact ⟨0,0,.inr h0,fun h=>by omega,fun j hj=>by omega⟩
    · cases a with
      | none=>have:=hc0 rfl; omega
      | some p =>
        have c0:=hcell p rfl 0 (by omega)
        rw [show p.add 0=p by simp [Addr.add]] at c0
        have c1:=cell_parts c0
        refine ⟨p.block,p.off,.inl ?_,fun _=>c1.2,fun j hj=>?_⟩
        · cases p; simp at c1; simp [c1.1]
        · rw [← hcell p rfl j hj]
          congr 1
          cases p
          simp at c1
          simp [Addr.add,c1.1]
  obtain ⟨b,off,had,hbl,hc⟩:=key
  have hP:=Tryz.places_in 3 (by omega) a b off len cap n.toNat had n i (es.map AV.toInt) (by omega) (by omega) (by omega) w0 hbl hc
  refine (callsIn_wide.1 hP).mono fun e w' he=>?_
  obtain ⟨v,rfl,hrow,hbel⟩:=he
  rw [← hlen2,hits_v] at hrow
  rw [List.length_map] at hrow
  refine row_back (T:=.int .i64) rfl ha hbel (by rw [List.length_map]; exact hrow) ?_
  intro j y hy
  rw [List.getElem?_map] at hy
  rw [List.getElem?_map,List.getElem?_map]
  cases hj:(hitsV (es.map AV.toInt) n.toNat i)[j]? with
  | none=>rw [hj] at hy; cases hy
  | some q =>
    rw [hj] at hy; cases hy
    refine ⟨_,rfl,fun S=>⟨_,rfl,rfl,?_⟩⟩
    have hq:q∈hitsV (es.map AV.toInt) n.toNat i:=List.mem_of_getElem? hj
    have:q < es.length:=by
      unfold hitsV at hq
      have:=(List.mem_filter.1 hq).1
      rw [List.mem_range,List.length_map] at this
      exact this
    have hw:=wrap_wf .i64 (q:Int)
    rwa [w64 (by omega) (by omega)] at hw
end Go.Proofs.YteiahdlklppghaaGreat.Ev

