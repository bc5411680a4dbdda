/- The field of the numbers modulo the prime 2147483579: an element's inverse is its power. Jacobi's symbol by counting (Schering): plain Lean. J(a, n), n = 2h + 1: the parity of the number of k from 1 to h with h < a k mod n. Gauss's lemma at P = 2147483579: the symbol by counting is the power to (P - 1) / 2. The steps of group.Valid, in plain Lean. The field of the numbers modulo the prime 1073741789: an element's inverse is its power. The elements of the group, in plain Lean: products, powers, and that the generator has the order Q. -/
namespace Go.Proofs.YtggnipkfliompaaGreatDoor.FP
abbrev Fp:=Fin 2147483579
def cp (z:Int):Fp:=⟨(z % 2147483579).toNat,by omega⟩
theorem cp_val (z:Int):((cp z).val:Int) = z % 2147483579:=by
 show (((z % 2147483579).toNat:Nat):Int) = _; omega
theorem fq_ext {a b:Fp} (h:(a.val:Int) = b.val):a = b:=Fin.ext (by omega)
theorem fq_add_val (a b:Fp):((a + b).val:Int) = ((a.val:Int) + b.val) % 2147483579:=by
 rw [Fin.val_add]; omega
theorem fq_mul_val (a b:Fp):((a * b).val:Int) = ((a.val:Int) * b.val) % 2147483579:=by
 rw [Fin.val_mul]; simp
theorem cp_add (a b:Int):cp (a + b) = cp a + cp b:=by
 apply fq_ext; rw [fq_add_val,cp_val,cp_val,cp_val]; omega
theorem cp_mul (a b:Int):cp (a * b) = cp a * cp b:=by
 apply fq_ext; rw [fq_mul_val,cp_val,cp_val,cp_val]; exact Int.mul_emod a b _
theorem cp_mod (a:Int):cp (a % 2147483579) = cp a:=by
 apply fq_ext; rw [cp_val,cp_val]; omega
theorem cp_0:cp 0 = 0:=by decide +kernel
theorem cp_1:cp 1 = 1:=by decide +kernel
theorem cp_zero {a:Int}:cp a = 0 ↔ a % 2147483579 = 0:=by
 constructor
 ·intro h
  have:=cp_val a
  rw [h] at this; exact this.symm
 ·intro h; apply fq_ext; rw [cp_val,h]; rfl
theorem cp_inj {a b:Int} (ha:0 ≤ a ∧ a < 2147483579) (hb:0 ≤ b ∧ b < 2147483579) (h:cp a = cp b):a = b:=by
 have h1:=cp_val a
 have h2:=cp_val b
 rw [h] at h1; omega
theorem cp_lift (a:Fp):cp (a.val:Int) = a:=by
 apply fq_ext; rw [cp_val]; have:=a.isLt; omega
def chkQ:Nat → Nat → Bool
 | 0,d => 2147483579 % d != 0
 | k + 1,d => chkQ k d && chkQ k (d + 2 ^ k)
theorem chkQ_sound:∀ (k d:Nat),chkQ k d = true → ∀ e,d ≤ e → e < d + 2 ^ k → 2147483579 % e ≠ 0
 | 0,d,h,e,h1,h2 => by
  obtain rfl:e = d:=by simp at h2; omega
  simpa [chkQ] using h
 | k + 1,d,h,e,h1,h2 => by
  simp only [chkQ,Bool.and_eq_true] at h
  by_cases hlt:e < d + 2 ^ k
  ·exact chkQ_sound k d h.1 e h1 hlt
  ·exact chkQ_sound k (d + 2 ^ k) h.2 e (by omega) (by rw [Nat.pow_succ] at h2; omega)
theorem chkQ_all:chkQ 16 2 = true:=by decide +kernel
theorem prime_small {d:Nat} (h:d ∣ 2147483579) (hd:d ≤ 65537):d = 1:=by
 by_cases h1:d = 1
 ·exact h1
 ·by_cases h0:d = 0
  ·subst h0; simp at h
  ·exact absurd (Nat.mod_eq_zero_of_dvd h) (chkQ_sound 16 2 chkQ_all d (by omega) (by omega))
theorem prime_div {d:Nat} (h:d ∣ 2147483579):d = 1 ∨ d = 2147483579:=by
 by_cases hd:d ≤ 65537
 ·exact .inl (prime_small h hd)
 ·obtain ⟨e,he⟩:=h
  have hle:e ≤ 65537:=by
   by_cases hc:e ≤ 65537
   ·exact hc
   ·have:=Nat.mul_le_mul (show 65538 ≤ d by omega) (show 65538 ≤ e by omega); omega
  have:=prime_small ⟨d,by rw [Nat.mul_comm]; exact he⟩ hle
  rw [this] at he; right; omega
theorem prime_cop {a:Nat} (h:¬ 2147483579 ∣ a):Nat.Coprime 2147483579 a:=by
 rcases prime_div (Nat.gcd_dvd_left 2147483579 a) with h1 | h1
 ·exact h1
 ·exact absurd (h1 ▸ Nat.gcd_dvd_right 2147483579 a) h
theorem prime_euclid {a b:Nat} (h:2147483579 ∣ a * b) (ha:¬ 2147483579 ∣ a):2147483579 ∣ b:=
 (prime_cop ha).dvd_of_dvd_mul_left h
theorem fq_mul_zero {a b:Fp} (h:a * b = 0):a = 0 ∨ b = 0:=by
 have h':(a * b).val = 0:=by rw [h]; rfl
 rw [Fin.val_mul] at h'
 by_cases ha:2147483579 ∣ a.val
 ·left; apply Fin.ext; exact Nat.eq_zero_of_dvd_of_lt ha a.isLt
 ·right; apply Fin.ext
  exact Nat.eq_zero_of_dvd_of_lt (prime_euclid (Nat.dvd_of_mod_eq_zero h') ha) b.isLt
def chooseN:Nat → Nat → Nat
 | _,0 => 1
 | 0,_ + 1 => 0
 | n + 1,k + 1 => chooseN n k + chooseN n (k + 1)
theorem choose_0 (n:Nat):chooseN n 0 = 1:=by cases n <;> rfl
theorem choose_gt:∀ (n k:Nat),n < k → chooseN n k = 0
 | 0,k + 1,_ => rfl
 | n + 1,k + 1,h => by rw [chooseN,choose_gt n k (by omega),choose_gt n (k + 1) (by omega)]
theorem choose_self:∀ n,chooseN n n = 1
 | 0 => rfl
 | n + 1 => by rw [chooseN,choose_self n,choose_gt n (n + 1) (by omega)]
theorem choose_mul:∀ (n k:Nat),(k + 1) * chooseN (n + 1) (k + 1) = (n + 1) * chooseN n k
 | 0,0 => rfl
 | 0,k + 1 => by rw [choose_gt 1 (k + 2) (by omega),choose_gt 0 (k + 1) (by omega)]; simp
 | n + 1,0 => by
  have:=choose_mul n 0
  rw [show chooseN (n + 1 + 1) (0 + 1) = chooseN (n + 1) 0 + chooseN (n + 1) (0 + 1) from rfl,Nat.mul_add,this,choose_0,choose_0]; omega
 | n + 1,k + 1 => by
  have h1:=choose_mul n k
  have h2:=choose_mul n (k + 1)
  rw [show chooseN (n + 1 + 1) (k + 1 + 1) = chooseN (n + 1) (k + 1) + chooseN (n + 1) (k + 1 + 1) from rfl,Nat.mul_add,h2]
  have e:(k + 1 + 1) * chooseN (n + 1) (k + 1) = (n + 1) * chooseN n k + chooseN (n + 1) (k + 1):=by rw [← h1]; grind
  rw [e]
  have e3:chooseN (n + 1) (k + 1) = chooseN n k + chooseN n (k + 1):=rfl
  rw [e3]; grind
theorem choose_div {k:Nat} (h0:0 < k) (h1:k < 2147483579):2147483579 ∣ chooseN 2147483579 k:=by
 obtain ⟨j,rfl⟩:∃ j,k = j + 1:=⟨k - 1,by omega⟩
 have h:=choose_mul 2147483578 j
 refine prime_euclid (a:=j + 1) ⟨chooseN 2147483578 j,h⟩ (fun hd => ?_)
 have:=Nat.le_of_dvd (by omega) hd; omega
def sm:Nat → (Nat → Fp) → Fp
 | 0,_ => 0
 | n + 1,f => sm n f + f n
theorem sm_congr {n:Nat} {f g:Nat → Fp} (h:∀ i,i < n → f i = g i):sm n f = sm n g:=by
 induction n with
 | zero => rfl
 | succ n ih => rw [sm,sm,ih (fun i hi => h i (by omega)),h n (by omega)]
theorem sm_add (n:Nat) (f g:Nat → Fp):sm n (fun i => f i + g i) = sm n f + sm n g:=by
 induction n with
 | zero => rfl
 | succ n ih => rw [sm,sm,sm,ih]; grind
theorem sm_mul (n:Nat) (a:Fp) (f:Nat → Fp):sm n (fun i => a * f i) = a * sm n f:=by
 induction n with
 | zero => simp only [sm]; grind
 | succ n ih => rw [sm,sm,ih]; grind
theorem sm_mul_r (n:Nat) (a:Fp) (f:Nat → Fp):sm n (fun i => f i * a) = sm n f * a:=by
 rw [Fin.mul_comm,← sm_mul]; exact sm_congr fun i _ => Fin.mul_comm _ _
theorem sm_zero {n:Nat} {f:Nat → Fp} (h:∀ i,i < n → f i = 0):sm n f = 0:=by
 induction n with
 | zero => rfl
 | succ n ih => rw [sm,ih (fun i hi => h i (by omega)),h n (by omega)]; rfl
theorem sm_shift (n:Nat) (f:Nat → Fp):sm (n + 1) f = f 0 + sm n (fun i => f (i + 1)):=by
 induction n with
 | zero => simp [sm]
 | succ n ih => rw [sm,ih,sm]; grind
def natq (k:Nat):Fp:=cp k
theorem natq_add (a b:Nat):natq (a + b) = natq a + natq b:=by unfold natq; rw [← cp_add]; rfl
theorem natq_zero {k:Nat} (h:2147483579 ∣ k):natq k = 0:=by unfold natq; rw [cp_zero]; omega
theorem natq_1:natq 1 = 1:=cp_1
theorem pow_0 (a:Fp):a ^ 0 = 1:=by grind
theorem pow_s (a:Fp) (n:Nat):a ^ (n + 1) = a ^ n * a:=by grind
theorem pow_sum (a:Fp):∀ n,(a + 1) ^ n = sm (n + 1) (fun k => natq (chooseN n k) * a ^ k)
 | 0 => by show (a + 1) ^ 0 = 0 + natq (chooseN 0 0) * a ^ 0; rw [choose_0,natq_1,pow_0,pow_0]; rfl
 | n + 1 => by
  rw [pow_s,pow_sum a n,sm_shift (n + 1)]
  have e1:sm (n + 1) (fun i => natq (chooseN (n + 1) (i + 1)) * a ^ (i + 1)) = sm (n + 1) (fun i => natq (chooseN n i) * a ^ i) * a + sm (n + 1) (fun i => natq (chooseN n (i + 1)) * a ^ (i + 1)):=by
   rw [← sm_mul_r,← sm_add]
   refine sm_congr fun i _ => ?_
   rw [show chooseN (n + 1) (i + 1) = chooseN n i + chooseN n (i + 1) from rfl,natq_add,pow_s]; grind
  have e2:sm (n + 1) (fun k => natq (chooseN n k) * a ^ k) = natq (chooseN n 0) * a ^ 0 + sm (n + 1) (fun i => natq (chooseN n (i + 1)) * a ^ (i + 1)):=by
   rw [sm_shift]
   congr 1
   show _ = sm n _ + natq (chooseN n (n + 1)) * a ^ (n + 1)
   rw [choose_gt n (n + 1) (by omega),natq_zero ⟨0,rfl⟩]; grind
  rw [e1,choose_0]
  rw [choose_0] at e2
  grind
theorem pow_mid (a:Fp) (n:Nat) (h:∀ i,i < n → natq (chooseN (n + 1) (i + 1)) = 0):(a + 1) ^ (n + 1) = a ^ (n + 1) + 1:=by
 rw [pow_sum a (n + 1)]
 show sm (n + 1) _ + natq (chooseN (n + 1) (n + 1)) * a ^ (n + 1) = _
 rw [choose_self,natq_1,sm_shift n,choose_0,natq_1,sm_zero]
 ·rw [pow_0]; grind
 ·intro i hi
  rw [h i hi]; grind
theorem pow_frob (a:Fp) (n:Nat) (hn:n + 1 = 2147483579):(a + 1) ^ (n + 1) = a ^ (n + 1) + 1:=
 pow_mid a n fun i hi => natq_zero (by rw [hn]; exact choose_div (by omega) (by omega))
theorem pow_nat (n:Nat) (hn:n + 1 = 2147483579):∀ k:Nat,natq k ^ (n + 1) = natq k
 | 0 => by rw [show natq 0 = 0 from cp_0,pow_s]; grind
 | k + 1 => by rw [natq_add,natq_1,pow_frob _ n hn,pow_nat n hn k]
theorem natq_val (a:Fp):natq a.val = a:=cp_lift a
theorem fermat_of {a b c:Fp} (h:a ≠ 0) (h1:c * a = a) (h2:c = b * a):b * a = 1:=by
 have h3:a * (b * a - 1) = 0:=by rw [← h2]; grind
 rcases fq_mul_zero h3 with h4 | h4
 ·exact absurd h4 h
 ·generalize b * a = u at *
  grind
theorem fermat_n {a:Fp} (n:Nat) (hn:n + 1 + 1 = 2147483579) (h:a ≠ 0):a ^ n * a = 1:=by
 have h1:=pow_nat (n + 1) hn a.val
 rw [natq_val,pow_s] at h1
 exact fermat_of h h1 (pow_s a n)
theorem cp_pow (z:Int):∀ n:Nat,cp (z ^ n) = cp z ^ n
 | 0 => by rw [pow_0,Int.pow_zero,cp_1]
 | n + 1 => by rw [pow_s,Int.pow_succ,cp_mul,cp_pow z n]
end Go.Proofs.YtggnipkfliompaaGreatDoor.FP
namespace Go.Proofs.YtggnipkfliompaaGreatDoor
def sN:Nat → (Nat → Nat) → Nat
 | 0,_ => 0
 | n + 1,f => sN n f + f n
theorem sN_congr {n:Nat} {f g:Nat → Nat} (h:∀ k,k < n → f k = g k):sN n f = sN n g:=by
 induction n with
 | zero => rfl
 | succ n ih => rw [sN,sN,ih fun k hk => h k (by omega),h n (by omega)]
theorem sN_add (n:Nat) (f g:Nat → Nat):sN n (fun k => f k + g k) = sN n f + sN n g:=by
 induction n with
 | zero => rfl
 | succ n ih => rw [sN,sN,sN,ih]; omega
theorem sN_mul (n c:Nat) (f:Nat → Nat):sN n (fun k => c * f k) = c * sN n f:=by
 induction n with
 | zero => rfl
 | succ n ih => rw [sN,sN,ih,Nat.mul_add]
theorem sN_const (n c:Nat):sN n (fun _ => c) = n * c:=by
 induction n with
 | zero => simp [sN]
 | succ n ih => rw [sN,ih,Nat.succ_mul]
theorem sN_swap (n m:Nat) (f:Nat → Nat → Nat):sN n (fun i => sN m (fun j => f i j)) = sN m (fun j => sN n (fun i => f i j)):=by
 induction n with
 | zero => show 0 = sN m (fun _ => 0); rw [sN_const]; omega
 | succ n ih => rw [sN,ih,← sN_add]; rfl
def one (b:Bool):Nat:=if b = true then 1 else 0
theorem perm_of_sub {l l':List Nat} (hn:l.Nodup) (hs:∀ x ∈ l,x ∈ l') (hl:l'.length ≤ l.length):l.Perm l':=by
 induction l generalizing l' with
 | nil =>
  have:l' = []:=List.length_eq_zero_iff.1 (by simpa using hl)
  subst this; exact List.Perm.nil
 | cons a t ih =>
  rw [List.nodup_cons] at hn
  have ha:=hs a (List.mem_cons_self)
  have hp:=List.perm_cons_erase ha
  refine List.Perm.trans (List.Perm.cons a (ih (l':=l'.erase a) hn.2 (fun x hx => ?_) ?_)) hp.symm
  ·have:x ≠ a:=fun e => hn.1 (e ▸ hx)
   exact (List.mem_erase_of_ne this).2 (hs x (List.mem_cons_of_mem _ hx))
  ·have:=hp.length_eq
   simp at this hl; omega
structure Perm1 (h:Nat) (s:Nat → Nat):Prop where
 lo:∀ k,1 ≤ k → k ≤ h → 1 ≤ s k
 hi:∀ k,1 ≤ k → k ≤ h → s k ≤ h
 inj:∀ k l,1 ≤ k → k ≤ h → 1 ≤ l → l ≤ h → s k = s l → k = l
def upto (h:Nat):List Nat:=(List.range h).map (· + 1)
theorem mem_upto {h k:Nat}:k ∈ upto h ↔ 1 ≤ k ∧ k ≤ h:=by
 unfold upto
 rw [List.mem_map]
 constructor
 ·rintro ⟨j,hj,rfl⟩; have:=List.mem_range.1 hj; omega
 ·rintro ⟨h1,h2⟩; exact ⟨k - 1,List.mem_range.2 (by omega),by omega⟩
theorem upto_succ (h:Nat):upto (h + 1) = upto h ++ [h + 1]:=by unfold upto; rw [List.range_succ,List.map_append]; rfl
theorem upto_nodup (h:Nat):(upto h).Nodup:=by
 unfold upto List.Nodup
 rw [List.pairwise_map]
 exact List.Pairwise.imp (fun h => by omega) (List.nodup_range (n:=h))
theorem Perm1.perm {h:Nat} {s:Nat → Nat} (p:Perm1 h s):((upto h).map s).Perm (upto h):=by
 refine perm_of_sub ?_ (fun x hx => ?_) (by simp)
 ·unfold List.Nodup
  rw [List.pairwise_map]
  refine List.Pairwise.imp_of_mem (fun {a b} ha hb hne => ?_) (upto_nodup h)
  have ha:=mem_upto.1 ha
  have hb:=mem_upto.1 hb
  exact fun e => hne (p.inj a b ha.1 ha.2 hb.1 hb.2 e)
 ·obtain ⟨k,hk,rfl⟩:=List.mem_map.1 hx
  have hk:=mem_upto.1 hk
  exact mem_upto.2 ⟨p.lo k hk.1 hk.2,p.hi k hk.1 hk.2⟩
def S1 (h:Nat) (f:Nat → Nat):Nat:=sN h (fun k => f (k + 1))
theorem S1_succ (m:Nat) (f:Nat → Nat):S1 (m + 1) f = S1 m f + f (m + 1):=rfl
theorem S1_list (h:Nat) (f:Nat → Nat):S1 h f = ((upto h).map f).sum:=by
 induction h with
 | zero => rfl
 | succ h ih =>
  rw [upto_succ,List.map_append,List.sum_append,← ih]
  simp [S1,sN]
theorem S1_perm {h:Nat} {s:Nat → Nat} (p:Perm1 h s) (f:Nat → Nat):S1 h (fun k => f (s k)) = S1 h f:=by
 rw [S1_list,S1_list,show ((upto h).map fun k => f (s k)) = ((upto h).map s).map f by rw [List.map_map]; rfl]
 exact (p.perm.map f).sum_nat
theorem S1_congr {h:Nat} {f g:Nat → Nat} (e:∀ k,1 ≤ k → k ≤ h → f k = g k):S1 h f = S1 h g:=sN_congr fun k hk => e (k + 1) (by omega) (by omega)
theorem S1_add (h:Nat) (f g:Nat → Nat):S1 h (fun k => f k + g k) = S1 h f + S1 h g:=sN_add h _ _
theorem S1_mul (h c:Nat) (f:Nat → Nat):S1 h (fun k => c * f k) = c * S1 h f:=sN_mul h c _
theorem S1_const (h c:Nat):S1 h (fun _ => c) = h * c:=sN_const h c
theorem S1_swap (n m:Nat) (f:Nat → Nat → Nat):S1 n (fun i => S1 m (fun j => f i j)) = S1 m (fun j => S1 n (fun i => f i j)):=sN_swap n m _
theorem S1_mod {h:Nat} {f g:Nat → Nat} (e:∀ k,1 ≤ k → k ≤ h → f k % 2 = g k % 2):S1 h f % 2 = S1 h g % 2:=by
 unfold S1
 have e':∀ k,k < h → f (k + 1) % 2 = g (k + 1) % 2:=fun k hk => e (k + 1) (by omega) (by omega)
 clear e
 induction h with
 | zero => rfl
 | succ h ih =>
  have:=ih fun k hk => e' k (by omega)
  have:=e' h (by omega)
  simp only [sN]; omega
def over (h a k:Nat):Nat:=if h < a * k % (2 * h + 1) then 1 else 0
def sg (h a k:Nat):Nat:=if h < a * k % (2 * h + 1) then 2 * h + 1 - a * k % (2 * h + 1) else a * k % (2 * h + 1)
def cntJ (h a:Nat):Nat:=S1 h (over h a)
theorem dvd_cop {a n k:Nat} (c:Nat.Coprime a n) (h:a * k % n = 0):n ∣ k:=
 (Nat.Coprime.symm c).dvd_of_dvd_mul_left (Nat.dvd_of_mod_eq_zero h)
theorem same_cop {a n k l:Nat} (c:Nat.Coprime a n) (h:a * k % n = a * l % n) (hk:k < n) (hl:l < n):k = l:=by
 have key:∀ k l,k < n → a * k % n = a * l % n → l ≤ k → k = l:=fun k l hk h hle => by
  have h1:(a * k - a * l) % n = 0:=Nat.sub_mod_eq_zero_of_mod_eq h
  rw [← Nat.mul_sub] at h1
  have h2:=dvd_cop c h1
  by_cases e:k - l = 0
  ·omega
  ·have:=Nat.le_of_dvd (by omega) h2; omega
 by_cases hle:l ≤ k
 ·exact key k l hk h hle
 ·exact (key l k hl h.symm (by omega)).symm
theorem sg_perm {h a:Nat} (c:Nat.Coprime a (2 * h + 1)):Perm1 h (sg h a):=by
 have hlt:∀ k,a * k % (2 * h + 1) < 2 * h + 1:=fun k => Nat.mod_lt _ (by omega)
 have hne:∀ k,1 ≤ k → k ≤ h → a * k % (2 * h + 1) ≠ 0:=fun k h1 h2 e => by
  have:=Nat.le_of_dvd (by omega) (dvd_cop c e); omega
 have hsum:∀ k l,1 ≤ k → k ≤ h → 1 ≤ l → l ≤ h → a * k % (2 * h + 1) + a * l % (2 * h + 1) ≠ 2 * h + 1:=fun k l h1 h2 h3 h4 e => by
  have e1:a * (k + l) % (2 * h + 1) = 0:=by rw [Nat.mul_add,Nat.add_mod,e,Nat.mod_self]
  have:=Nat.le_of_dvd (by omega) (dvd_cop c e1); omega
 refine ⟨fun k h1 h2 => ?_,fun k h1 h2 => ?_,fun k l h1 h2 h3 h4 e => ?_⟩
 ·have:=hlt k; have:=hne k h1 h2; unfold sg; split <;> omega
 ·have:=hlt k; have:=hne k h1 h2; unfold sg; split <;> omega
 ·have:=hlt k; have:=hlt l; have:=hsum k l h1 h2 h3 h4
  refine same_cop c ?_ (by omega) (by omega)
  unfold sg at e
  split at e <;> split at e <;> omega
theorem cntJ_one (h:Nat):cntJ h 1 = 0:=by
 unfold cntJ
 rw [S1_congr (g:=fun _ => 0) fun k h1 h2 => ?_,S1_const,Nat.mul_zero]
 unfold over
 rw [if_neg]; rw [Nat.one_mul,Nat.mod_eq_of_lt (by omega)]; omega
theorem cntJ_mod (h a:Nat):cntJ h (a % (2 * h + 1)) = cntJ h a:=by
 refine S1_congr fun k _ _ => ?_
 unfold over; rw [Nat.mod_mul_mod]
theorem cntJ_mul {h a b:Nat} (ca:Nat.Coprime a (2 * h + 1)) (cb:Nat.Coprime b (2 * h + 1)):cntJ h (a * b) % 2 = (cntJ h a + cntJ h b) % 2:=by
 unfold cntJ
 rw [← S1_perm (sg_perm cb) (over h a),← S1_add]
 refine S1_mod fun k h1 h2 => ?_
 have hb:b * k % (2 * h + 1) < 2 * h + 1:=Nat.mod_lt _ (by omega)
 have e1:a * b * k % (2 * h + 1) = a * (b * k % (2 * h + 1)) % (2 * h + 1):=by rw [Nat.mul_assoc,Nat.mul_mod_mod]
 unfold over sg
 rw [e1]
 generalize b * k % (2 * h + 1) = r at *
 by_cases hr:h < r
 ·rw [if_pos hr,if_pos hr]
  have e2:(a * (2 * h + 1 - r) % (2 * h + 1) + a * r % (2 * h + 1)) % (2 * h + 1) = 0:=by
   rw [← Nat.add_mod,← Nat.mul_add,Nat.sub_add_cancel (by omega),Nat.mul_mod_left]
  have h3:a * (2 * h + 1 - r) % (2 * h + 1) < 2 * h + 1:=Nat.mod_lt _ (by omega)
  have h4:a * r % (2 * h + 1) < 2 * h + 1:=Nat.mod_lt _ (by omega)
  have h5:a * r % (2 * h + 1) ≠ 0:=fun e => by
   have:=Nat.le_of_dvd (by omega) (dvd_cop ca e); omega
  have h6:a * (2 * h + 1 - r) % (2 * h + 1) + a * r % (2 * h + 1) = 2 * h + 1:=by
   have h7:=Nat.dvd_of_mod_eq_zero e2
   obtain ⟨q,hq⟩:=h7
   have:q = 1:=by
    rcases Nat.lt_or_ge q 1 with h8 | h8
    ·obtain rfl:q = 0:=by omega
     rw [Nat.mul_zero] at hq; omega
    ·rcases Nat.lt_or_ge 1 q with h9 | h9
     ·have:=Nat.mul_le_mul_left (2 * h + 1) h9; omega
     ·omega
   rw [this] at hq; omega
  generalize a * (2 * h + 1 - r) % (2 * h + 1) = x at *
  generalize a * r % (2 * h + 1) = y at *
  by_cases hx:h < x
  ·rw [if_pos hx,if_neg (by omega)]
  ·rw [if_neg hx,if_pos (by omega)]
 ·rw [if_neg hr,if_neg hr]; omega
theorem cntJ_two (h:Nat):cntJ h 2 = h - h / 2:=by
 have h1:∀ m,S1 m (fun k => if h < 2 * k then 1 else 0) = m - min m (h / 2):=fun m => by
  induction m with
  | zero => simp [S1,sN]
  | succ m ih =>
   rw [S1_succ,ih]
   by_cases e:h < 2 * (m + 1)
   ·rw [if_pos e]; omega
   ·rw [if_neg e]; omega
 unfold cntJ
 rw [S1_congr (g:=fun k => if h < 2 * k then 1 else 0) fun k h2 h3 => ?_,h1]
 ·omega
 ·unfold over; rw [Nat.mod_eq_of_lt (by omega)]
theorem cntJ_quot {h m:Nat} (c:Nat.Coprime m (2 * h + 1)) (hm:m % 2 = 1):cntJ h m % 2 = S1 h (fun k => m * k / (2 * h + 1)) % 2:=by
 have e1:S1 h (fun k => m * k) % 2 = (S1 h (fun k => m * k / (2 * h + 1)) + S1 h (sg h m) + cntJ h m) % 2:=by
  unfold cntJ
  rw [← S1_add,← S1_add]
  refine S1_mod fun k _ _ => ?_
  have h1:=Nat.div_add_mod (m * k) (2 * h + 1)
  have h2:m * k % (2 * h + 1) < 2 * h + 1:=Nat.mod_lt _ (by omega)
  have h3:(2 * h + 1) * (m * k / (2 * h + 1)) = 2 * (h * (m * k / (2 * h + 1))) + m * k / (2 * h + 1):=by rw [Nat.add_mul,Nat.one_mul,Nat.mul_assoc]
  unfold sg over
  generalize m * k / (2 * h + 1) = q at *
  generalize m * k % (2 * h + 1) = r at *
  generalize m * k = z at *
  generalize h * q = y at *
  by_cases e:h < r
  ·rw [if_pos e,if_pos e]; omega
  ·rw [if_neg e,if_neg e]; omega
 have e2:S1 h (sg h m) = S1 h (fun k => k):=S1_perm (sg_perm c) (fun k => k)
 have e3:S1 h (fun k => m * k) % 2 = S1 h (fun k => k) % 2:=by
  rw [S1_mul,Nat.mul_mod,hm]; simp
 rw [e2] at e1
 omega
theorem quot_count {h g:Nat} {k:Nat} (hk:k ≤ h):(2 * g + 1) * k / (2 * h + 1) = S1 g (fun l => if (2 * h + 1) * l ≤ (2 * g + 1) * k then 1 else 0):=by
 have hle:(2 * g + 1) * k / (2 * h + 1) ≤ g:=by
  rw [Nat.div_le_iff_le_mul_add_pred (by omega)]
  have:(2 * g + 1) * k ≤ (2 * g + 1) * h:=Nat.mul_le_mul_left _ hk
  have e1:(2 * g + 1) * h = 2 * (g * h) + h:=by rw [Nat.add_mul,Nat.one_mul,Nat.mul_assoc]
  have e2:(2 * h + 1) * g = 2 * (g * h) + g:=by rw [Nat.add_mul,Nat.one_mul,Nat.mul_assoc,Nat.mul_comm h g]
  omega
 have h1:∀ m,S1 m (fun l => if (2 * h + 1) * l ≤ (2 * g + 1) * k then 1 else 0) = min m ((2 * g + 1) * k / (2 * h + 1)):=fun m => by
  induction m with
  | zero => simp [S1,sN]
  | succ m ih =>
   rw [S1_succ,ih]
   have:=Nat.le_div_iff_mul_le (x:=m + 1) (y:=(2 * g + 1) * k) (k:=2 * h + 1) (by omega)
   rw [Nat.mul_comm (m + 1)] at this
   by_cases e:(2 * h + 1) * (m + 1) ≤ (2 * g + 1) * k
   ·rw [if_pos e]; have:=this.2 e; omega
   ·rw [if_neg e]; have:¬ m + 1 ≤ (2 * g + 1) * k / (2 * h + 1):=fun x => e (this.1 x); omega
 rw [h1]; omega
theorem cntJ_recip {h g:Nat} (c:Nat.Coprime (2 * g + 1) (2 * h + 1)):(cntJ h (2 * g + 1) + cntJ g (2 * h + 1)) % 2 = h * g % 2:=by
 have e1:=cntJ_quot c (by omega)
 have e2:=cntJ_quot c.symm (by omega)
 have e3:S1 h (fun k => (2 * g + 1) * k / (2 * h + 1)) + S1 g (fun l => (2 * h + 1) * l / (2 * g + 1)) = h * g:=by
  rw [S1_congr (h:=h) (fun k _ hk => quot_count hk),S1_congr (h:=g) (fun l _ hl => quot_count hl),S1_swap g h,← S1_add,
   S1_congr (g:=fun _ => g) fun k hk1 hk2 => ?_,S1_const]
  rw [← S1_add,S1_congr (g:=fun _ => 1) fun l hl1 hl2 => ?_,S1_const,Nat.mul_one]
  have hne:(2 * h + 1) * l ≠ (2 * g + 1) * k:=fun e => by
   have:(2 * h + 1) ∣ k:=c.symm.dvd_of_dvd_mul_left ⟨l,e.symm⟩
   have:=Nat.le_of_dvd (by omega) this; omega
  generalize (2 * h + 1) * l = x at *
  generalize (2 * g + 1) * k = y at *
  by_cases e:x ≤ y
  ·rw [if_pos e,if_neg (by omega)]
  ·rw [if_neg e,if_pos (by omega)]
 omega
end Go.Proofs.YtggnipkfliompaaGreatDoor
namespace Go.Proofs.YtggnipkfliompaaGreatDoor.FP
def prodP (l:List Nat) (f:Nat → Fp):Fp:=l.foldr (fun k x => f k * x) 1
theorem prodP_perm {l l':List Nat} (h:l.Perm l') (f:Nat → Fp):prodP l f = prodP l' f:=by
 induction h with
 | nil => rfl
 | cons x _ ih => show f x * prodP _ f = f x * prodP _ f; rw [ih]
 | swap x y l => show f y * (f x * prodP l f) = f x * (f y * prodP l f); generalize prodP l f = z; grind
 | trans _ _ h1 h2 => rw [h1,h2]
theorem prodP_map (l:List Nat) (s:Nat → Nat) (f:Nat → Fp):prodP (l.map s) f = prodP l (fun k => f (s k)):=by
 induction l with
 | nil => rfl
 | cons x l ih => show f (s x) * prodP (l.map s) f = f (s x) * prodP l _; rw [ih]
theorem prodP_congr {l:List Nat} {f g:Nat → Fp} (h:∀ k ∈ l,f k = g k):prodP l f = prodP l g:=by
 induction l with
 | nil => rfl
 | cons x l ih => show f x * prodP l f = g x * prodP l g; rw [h x (List.mem_cons_self),ih fun k hk => h k (List.mem_cons_of_mem _ hk)]
theorem prodP_mul (l:List Nat) (f g:Nat → Fp):prodP l (fun k => f k * g k) = prodP l f * prodP l g:=by
 induction l with
 | nil => show (1:Fp) = 1 * 1; grind
 | cons x l ih =>
  show f x * g x * prodP l _ = f x * prodP l f * (g x * prodP l g)
  rw [ih]; generalize prodP l f = z; generalize prodP l g = y; grind
theorem prodP_ne {l:List Nat} {f:Nat → Fp} (h:∀ k ∈ l,f k ≠ 0):prodP l f ≠ 0:=by
 induction l with
 | nil => show (1:Fp) ≠ 0; decide
 | cons x l ih =>
  intro e
  rcases fq_mul_zero (show f x * prodP l f = 0 from e) with h1 | h1
  ·exact h x (List.mem_cons_self) h1
  ·exact ih (fun k hk => h k (List.mem_cons_of_mem _ hk)) h1
theorem prodP_const (h:Nat) (a:Fp):prodP (upto h) (fun _ => a) = a ^ h:=by
 have:∀ l:List Nat,prodP l (fun _ => a) = a ^ l.length:=fun l => by
  induction l with
  | nil => exact (pow_0 a).symm
  | cons x l ih => show a * prodP l _ = _; rw [ih,List.length_cons,pow_s]; grind
 rw [this]; simp [upto]
theorem prodP_sign (h:Nat) (g:Nat → Nat):prodP (upto h) (fun k => (-1:Fp) ^ g k) = (-1:Fp) ^ S1 h g:=by
 induction h with
 | zero => exact (pow_0 _).symm
 | succ h ih =>
  have e:prodP (upto (h + 1)) (fun k => (-1:Fp) ^ g k) = prodP (upto h) (fun k => (-1:Fp) ^ g k) * (-1:Fp) ^ g (h + 1):=by
   rw [upto_succ,prodP_perm (List.perm_append_comm)]
   show (-1:Fp) ^ g (h + 1) * prodP (upto h) _ = _
   grind
  rw [e,ih,S1_succ]
  generalize S1 h g = x; generalize g (h + 1) = y; grind
theorem natq_mul (a b:Nat):natq (a * b) = natq a * natq b:=by unfold natq; rw [← cp_mul]; rfl
theorem natq_mod (a:Nat):natq (a % 2147483579) = natq a:=by unfold natq; rw [Int.natCast_emod]; exact cp_mod a
theorem natq_ne {k:Nat} (h0:0 < k) (h:k < 2147483579):natq k ≠ 0:=fun e => by
 unfold natq at e; rw [cp_zero] at e; omega
theorem gauss {a h:Nat} (hh:2 * h + 1 = 2147483579) (c:Nat.Coprime a (2 * h + 1)):natq a ^ h = (-1:Fp) ^ cntJ h a:=by
 have e1:prodP (upto h) (fun k => natq (a * k)) = prodP (upto h) (fun k => (-1:Fp) ^ over h a k * natq (sg h a k)):=by
  refine prodP_congr fun k _ => ?_
  have h1:=natq_mod (a * k)
  have h2:a * k % (2 * h + 1) < 2 * h + 1:=Nat.mod_lt _ (by omega)
  rw [← hh] at h1
  unfold over sg
  generalize a * k % (2 * h + 1) = r at *
  rw [← h1]
  by_cases hr:h < r
  ·rw [if_pos hr,if_pos hr]
   have e:natq (2 * h + 1 - r) + natq r = 0:=by
    rw [← natq_add,Nat.sub_add_cancel (by omega),hh]; exact natq_zero ⟨1,rfl⟩
   have e2:(-1:Fp) ^ 1 = -1:=by rw [pow_s,pow_0]; grind
   rw [e2]; generalize natq (2 * h + 1 - r) = x at *; generalize natq r = y at *; grind
  ·rw [if_neg hr,if_neg hr,pow_0]; generalize natq r = y; grind
 have e2:prodP (upto h) (fun k => natq (a * k)) = natq a ^ h * prodP (upto h) natq:=by
  rw [show (fun k => natq (a * k)) = fun k => natq a * natq k from funext fun k => natq_mul a k,prodP_mul,prodP_const]
 have e3:prodP (upto h) (fun k => natq (sg h a k)) = prodP (upto h) natq:=by
  rw [← prodP_map,prodP_perm (sg_perm c).perm]
 rw [e2,prodP_mul,prodP_sign,e3] at e1
 have hne:prodP (upto h) natq ≠ 0:=prodP_ne fun k hk => by
  have:=mem_upto.1 hk
  exact natq_ne (by omega) (by omega)
 generalize prodP (upto h) natq = z at *
 have e4:(natq a ^ h - (-1:Fp) ^ S1 h (over h a)) * z = 0:=by grind
 rcases fq_mul_zero e4 with h5 | h5
 ·show natq a ^ h = (-1:Fp) ^ S1 h (over h a)
  grind
 ·exact absurd h5 hne
theorem sign_even (n:Nat):(-1:Fp) ^ n = if n % 2 = 0 then 1 else -1:=by
 induction n with
 | zero => exact pow_0 _
 | succ n ih =>
  rw [pow_s,ih]
  by_cases e:n % 2 = 0
  ·rw [if_pos e,if_neg (by omega)]; grind
  ·rw [if_neg e,if_pos (by omega)]; grind
theorem euler {a h:Nat} (hh:2 * h + 1 = 2147483579) (h0:0 < a) (h1:a < 2147483579):natq a ^ h = 1 ↔ cntJ h a % 2 = 0:=by
 have c:Nat.Coprime a (2 * h + 1):=by
  rw [hh]
  exact (prime_cop (fun hd => by have:=Nat.le_of_dvd h0 hd; omega)).symm
 rw [gauss hh c,sign_even]
 by_cases e:cntJ h a % 2 = 0
 ·rw [if_pos e]; exact ⟨fun _ => e,fun _ => rfl⟩
 ·rw [if_neg e]; exact ⟨fun x => absurd x (by decide),fun x => absurd x e⟩
end Go.Proofs.YtggnipkfliompaaGreatDoor.FP
namespace Go.Proofs.YtggnipkfliompaaGreatDoor
def vJ (x n:Nat):Bool:=decide (cntJ (n / 2) x % 2 = 0)
theorem vJ_one (n:Nat):vJ 1 n = true:=by unfold vJ; rw [cntJ_one]; rfl
theorem half_odd {n:Nat} (hn:n % 2 = 1):2 * (n / 2) + 1 = n:=by omega
theorem par_add {a b c:Nat} (h:c % 2 = (a + b) % 2):decide (c % 2 = 0) = (decide (a % 2 = 0) == decide (b % 2 = 0)):=by
 by_cases ha:a % 2 = 0 <;> by_cases hb:b % 2 = 0
 ·rw [decide_eq_true ha,decide_eq_true hb,decide_eq_true (by omega)]; rfl
 ·rw [decide_eq_true ha,decide_eq_false hb,decide_eq_false (by omega)]; rfl
 ·rw [decide_eq_false ha,decide_eq_true hb,decide_eq_false (by omega)]; rfl
 ·rw [decide_eq_false ha,decide_eq_false hb,decide_eq_true (by omega)]; rfl
theorem vJ_two {y n:Nat} (hn:n % 2 = 1) (c:Nat.Coprime (2 * y) n):vJ (2 * y) n = (vJ y n == !(decide (n % 8 = 3) || decide (n % 8 = 5))):=by
 have c2:Nat.Coprime 2 n:=Nat.Coprime.coprime_mul_right c
 have cy:Nat.Coprime y n:=Nat.Coprime.coprime_mul_left c
 have e:=cntJ_mul (h:=n / 2) (a:=y) (b:=2) (by rw [half_odd hn]; exact cy) (by rw [half_odd hn]; exact c2)
 rw [Nat.mul_comm] at e
 unfold vJ
 rw [par_add e,cntJ_two]
 congr 1
 by_cases h3:n % 8 = 3
 ·rw [decide_eq_true h3,decide_eq_false (by omega)]; rfl
 ·by_cases h5:n % 8 = 5
  ·rw [decide_eq_false h3,decide_eq_true h5,decide_eq_false (by omega)]; rfl
  ·rw [decide_eq_false h3,decide_eq_false h5,decide_eq_true (by omega)]; rfl
theorem vJ_swap {x n:Nat} (hx:x % 2 = 1) (hn:n % 2 = 1) (c:Nat.Coprime x n):vJ (n % x) x = (vJ x n == !(decide (x % 4 = 3) && decide (n % 4 = 3))):=by
 have e:=cntJ_recip (h:=n / 2) (g:=x / 2) (by rw [half_odd hx,half_odd hn]; exact c)
 rw [half_odd hx,half_odd hn] at e
 have e1:cntJ (x / 2) (n % x) = cntJ (x / 2) n:=by have:=cntJ_mod (x / 2) n; rw [half_odd hx] at this; exact this
 unfold vJ
 rw [e1,par_add (a:=cntJ (n / 2) x) (b:=n / 2 * (x / 2)) (by omega)]
 congr 1
 have h4:(n / 2 * (x / 2)) % 2 = ((n / 2) % 2) * ((x / 2) % 2) % 2:=Nat.mul_mod _ _ _
 by_cases h1:x % 4 = 3
 ·rw [decide_eq_true h1,Bool.true_and]
  have:x / 2 % 2 = 1:=by omega
  rw [this,Nat.mul_one] at h4
  by_cases h2:n % 4 = 3
  ·rw [decide_eq_true h2,decide_eq_false (by omega)]; rfl
  ·rw [decide_eq_false h2,decide_eq_true (by omega)]; rfl
 ·have:x / 2 % 2 = 0:=by omega
  rw [this,Nat.mul_zero] at h4
  rw [decide_eq_false h1,decide_eq_true (by omega)]; rfl
end Go.Proofs.YtggnipkfliompaaGreatDoor
namespace Go.Proofs.YtggnipkfliompaaGreatDoor
abbrev Fq:=Fin 1073741789
def cq (z:Int):Fq:=⟨(z % 1073741789).toNat,by omega⟩
def chkQ:Nat → Nat → Bool
 | 0,d => 1073741789 % d != 0
 | k + 1,d => chkQ k d && chkQ k (d + 2 ^ k)
def chooseN:Nat → Nat → Nat
 | _,0 => 1
 | 0,_ + 1 => 0
 | n + 1,k + 1 => chooseN n k + chooseN n (k + 1)
def sm:Nat → (Nat → Fq) → Fq
 | 0,_ => 0
 | n + 1,f => sm n f + f n
def natq (k:Nat):Fq:=cq k
end Go.Proofs.YtggnipkfliompaaGreatDoor
namespace Go.Proofs.YtggnipkfliompaaGreatDoor
open FP
theorem fp_add (a:Fp) (m:Nat):∀ n:Nat,a ^ (m + n) = a ^ m * a ^ n
 | 0 => by rw [Nat.add_zero,FP.pow_0]; grind
 | n + 1 => by rw [← Nat.add_assoc,FP.pow_s,FP.pow_s,fp_add a m n]; grind
theorem fp_mul (a:Fp) (m:Nat):∀ n:Nat,a ^ (m * n) = (a ^ m) ^ n
 | 0 => by rw [Nat.mul_zero,FP.pow_0,FP.pow_0]
 | n + 1 => by rw [Nat.mul_succ,fp_add,FP.pow_s,fp_mul a m n]
theorem fp_prod (a b:Fp):∀ n:Nat,(a * b) ^ n = a ^ n * b ^ n
 | 0 => by rw [FP.pow_0,FP.pow_0,FP.pow_0]; grind
 | n + 1 => by rw [FP.pow_s,FP.pow_s,FP.pow_s,fp_prod a b n]; grind
theorem fp_one:∀ n:Nat,(1:Fp) ^ n = 1
 | 0 => FP.pow_0 1
 | n + 1 => by rw [FP.pow_s,fp_one n]; grind
def nQ:Nat:=1073741789
theorem nQ_eq:nQ = 1073741789:=rfl
theorem fp_mod {a:Fp} (h:a ^ nQ = 1) (m:Nat):a ^ (m % nQ) = a ^ m:=by
 have e:a ^ (nQ * (m / nQ) + m % nQ) = a ^ (m % nQ):=by
  rw [fp_add,fp_mul,h,fp_one]; grind
 rw [Nat.div_add_mod] at e; exact e.symm
theorem fp_same {a:Fp} (h:a ^ nQ = 1) {m n:Nat} (e:m % nQ = n % nQ):a ^ m = a ^ n:=by
 rw [← fp_mod h m,← fp_mod h n,e]
def powP (a:Int) (n:Nat):Int:=a ^ n % 2147483579
theorem powP_num (a:Int) (n:Nat):0 ≤ powP a n ∧ powP a n < 2147483579:=by unfold powP; omega
theorem cp_powP (a:Int) (n:Nat):cp (powP a n) = cp a ^ n:=by unfold powP; rw [cp_mod,cp_pow]
def elB (x:Int):Bool:=decide (1 ≤ x) && (decide (x < 2147483579) && (powP x nQ == 1))
structure El (x:Int):Prop where
 lo:1 ≤ x
 hi:x < 2147483579
 pw:cp x ^ nQ = 1
theorem El.num {x:Int} (h:El x):0 ≤ x ∧ x < 2147483579:=⟨by have:=h.lo; omega,h.hi⟩
theorem powP_one {x:Int}:powP x nQ = 1 ↔ cp x ^ nQ = 1:=by
 rw [← cp_powP]
 constructor
 ·intro h; rw [h,cp_1]
 ·intro h
  exact cp_inj (powP_num x nQ) (by omega) (h.trans cp_1.symm)
theorem elB_iff {x:Int}:elB x = true ↔ El x:=by
 unfold elB
 rw [Bool.and_eq_true,Bool.and_eq_true,decide_eq_true_eq,decide_eq_true_eq,beq_iff_eq,powP_one]
 exact ⟨fun ⟨a,b,c⟩ => ⟨a,b,c⟩,fun ⟨a,b,c⟩ => ⟨a,b,c⟩⟩
theorem el_cp_ne {x:Int} (h:cp x ^ nQ = 1):cp x ≠ 0:=fun e => by
 rw [e] at h
 have h2:(0:Fp) ^ (nQ - 1 + 1) = 1:=h
 rw [FP.pow_s] at h2
 have:(0:Fp) = 1:=by rw [← h2]; grind
 exact absurd this (by decide)
theorem el_of {x:Int} (hx:0 ≤ x ∧ x < 2147483579) (h:cp x ^ nQ = 1):El x:=by
 refine ⟨?_,hx.2,h⟩
 by_cases e:x = 0
 ·exact absurd (by rw [e]; exact cp_0) (el_cp_ne h)
 ·omega
theorem el_one:El 1:=⟨by omega,by omega,by rw [cp_1,fp_one]⟩
theorem el_mul {a b:Int} (ha:El a) (hb:El b):El (a * b % 2147483579):=
 el_of (by omega) (by rw [cp_mod,cp_mul,fp_prod,ha.pw,hb.pw]; grind)
theorem el_powP {a:Int} (ha:El a) (n:Nat):El (powP a n):=
 el_of (powP_num a n) (by rw [cp_powP,← fp_mul,Nat.mul_comm,fp_mul,ha.pw,fp_one])
def ex (n:Int):Nat:=(n % 1073741789).toNat
theorem ex_lt (n:Int):ex n < 1073741789:=by unfold ex; omega
theorem ex_cast (n:Int):((ex n:Nat):Int) = n % 1073741789:=by unfold ex; omega
theorem ex_mul (m n:Int):ex (m * n) % nQ = (ex m * ex n) % nQ:=by
 rw [nQ_eq]
 have h1:=ex_cast m; have h2:=ex_cast n; have h3:=ex_cast (m * n)
 have h4:((ex m * ex n % 1073741789:Nat):Int) = m * n % 1073741789:=by
  rw [Int.natCast_emod,Int.natCast_mul,h1,h2]; exact (Int.mul_emod m n _).symm
 have h5:((ex (m * n) % 1073741789:Nat):Int) = m * n % 1073741789:=by
  rw [Int.natCast_emod,h3]; exact Int.emod_emod _ _
 exact Int.ofNat.inj (h5.trans h4.symm)
def powE (a n:Int):Int:=powP a (ex n)
theorem cp_powE (a n:Int):cp (powE a n) = cp a ^ ex n:=cp_powP _ _
theorem el_powE {a:Int} (ha:El a) (n:Int):El (powE a n):=el_powP ha _
theorem el_ext {a b:Int} (ha:El a) (hb:El b) (h:cp a = cp b):a = b:=cp_inj ha.num hb.num h
theorem powE_mul {a:Int} (ha:El a) (m n:Int):powE (powE a m) n = powE a (m * n):=by
 refine el_ext (el_powE (el_powE ha _) _) (el_powE ha _) ?_
 rw [cp_powE,cp_powE,cp_powE,← fp_mul]; exact (fp_same ha.pw (ex_mul m n)).symm
end Go.Proofs.YtggnipkfliompaaGreatDoor
