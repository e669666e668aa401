/- index: what with and without lean on. -/
import Derived.Test.YtokhnbdhcehonaaGreatIn
import Derived.Test.YtokhnbdhcehonaaGreatDl
import Derived.Test.YtokhnbdhcehonaaGreatCl
import Derived.Test.YtokhnbdhcehonaaGreatFd
